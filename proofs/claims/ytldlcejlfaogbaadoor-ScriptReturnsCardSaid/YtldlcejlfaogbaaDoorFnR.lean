/- The program's search for two rows of words that make one: its texts. -/
import Derived.Test.YtldlcejlfaogbaaDoorFnQ
import Derived.Test.YtldlcejlfaogbaaDoorFnKey
