/- The texts of PBase. -/
import Derived.Test.YtjiiahiglpcpmaaDoorPBase
