/- EcsLimits: the walk and the opened arguments, together. -/
import Derived.Test.YtkebkmbfglodlaaDoorEl2
import Derived.Test.YtkebkmbfglodlaaDoorEo
