/- What the walks of this seat import. -/
import Derived.Test.YtcdfmgobokjcnaaRows
import Derived.WalkKit
import Derived.Lib.Hide
import Derived.WalkLawsBesides
import Derived.WalkSpells
import Derived.Deep.QuietTactic
import Derived.BigQuiet
import Derived.Deep.DeepCutAuto
import Derived.Deep.RegionHeld3
import Derived.Deep.RegionLaw
import Derived.Deep.AppendLies
import Derived.StillTailTactics
import Derived.Laws.AppendOwnNone
import Derived.Test.YtcdfmgobokjcnaaSv
