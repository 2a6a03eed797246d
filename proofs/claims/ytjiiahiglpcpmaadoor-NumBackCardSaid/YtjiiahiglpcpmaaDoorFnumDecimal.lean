/- num.Decimal: its contract lies in FnumRead. -/
import Derived.Test.YtjiiahiglpcpmaaDoorFnumRead
set_option linter.unusedVariables false
set_option linter.unusedSimpArgs false
