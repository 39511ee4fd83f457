/- The contracts of package text, together. -/
import Derived.Test.YtnkinkgmceokhaaDoorTxtLines
import Derived.Test.YtnkinkgmceokhaaDoorTxtWords
import Derived.Test.YtnkinkgmceokhaaDoorTxtDigits
import Derived.Test.YtnkinkgmceokhaaDoorTxtName
import Derived.Test.YtnkinkgmceokhaaDoorTxtJoin
import Derived.Test.YtnkinkgmceokhaaDoorTxtEq
