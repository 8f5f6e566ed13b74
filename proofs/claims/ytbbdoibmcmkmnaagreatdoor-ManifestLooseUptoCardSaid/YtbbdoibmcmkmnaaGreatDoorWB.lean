/- What every walk imports. -/
import Derived.Test.YtbbdoibmcmkmnaaGreatDoorProg
import Derived.Test.YtbbdoibmcmkmnaaGreatDoorPA
import Derived.Test.YtbbdoibmcmkmnaaGreatDoorMem
import Derived.WalkKit
import Derived.Lib.Hide
import Derived.WalkSpells
import Derived.WalkLawsBesides
import Derived.Lib.SlBytesConst
