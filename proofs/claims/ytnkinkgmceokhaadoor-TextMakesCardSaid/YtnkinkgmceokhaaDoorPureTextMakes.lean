/- TextMakes: the walk at every argument. -/
import Derived.Test.YtnkinkgmceokhaaDoorPureCuts
