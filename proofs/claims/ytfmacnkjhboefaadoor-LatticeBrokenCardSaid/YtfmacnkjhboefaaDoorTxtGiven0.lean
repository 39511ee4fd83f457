/- What the texts' functions stand on at this seat. -/
import Derived.Test.YtfmacnkjhboefaaDoorProg
import Derived.Test.YtfmacnkjhboefaaDoorShelf
import Derived.Test.YtfmacnkjhboefaaDoorTxtPlain
import Derived.WalkSmall
import Derived.RangeFuncRecord
import Derived.WalkKit
import Derived.WalkSpells
import Derived.WalkLawsBesides
import Derived.Lib.Hide
