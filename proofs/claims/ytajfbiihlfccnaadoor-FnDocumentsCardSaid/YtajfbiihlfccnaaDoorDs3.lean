/- The texts of chapter 6 joined. Conditions: none. -/
import Derived.Test.YtajfbiihlfccnaaDoorDs2
import Derived.Test.YtajfbiihlfccnaaDoorSe2
