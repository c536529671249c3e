/- A stub: this seat has no reference of num. -/
import Derived.Test.YtjclioakdmilmaaNumA
import Derived.Test.YtjclioakdmilmaaNumPlainB
import Derived.Deep.QuietTactic
import Derived.BigQuiet
