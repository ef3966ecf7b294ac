/- What the walks over the trie stand on. -/
import Derived.Test.YtkioddmhjbaleaaDoorDigOf
import Derived.Test.YtkioddmhjbaleaaDoorTrieLaw
