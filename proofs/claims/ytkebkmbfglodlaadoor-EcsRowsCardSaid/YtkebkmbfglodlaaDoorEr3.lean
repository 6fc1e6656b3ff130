/- EcsRows: the walk and the opened arguments, together. -/
import Derived.Test.YtkebkmbfglodlaaDoorEr1
import Derived.Test.YtkebkmbfglodlaaDoorEo
