/- What the texts' functions stand on at this seat. -/
import Derived.Test.YtfmacnkjhboefaaGreatDoorProg
import Derived.Test.YtfmacnkjhboefaaGreatDoorShelf
import Derived.Test.YtfmacnkjhboefaaGreatDoorTxtPlain
import Derived.WalkSmall
import Derived.RangeFuncRecord
import Derived.WalkKit
import Derived.WalkSpells
import Derived.WalkLawsBesides
import Derived.Lib.Hide
