/- HeapSorts: the walk and the opened argument, together. -/
import Derived.Test.YthnojjlaicajhaaSorts
import Derived.Test.YthnojjlaicajhaaHOpen
