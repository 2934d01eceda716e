/- Ins, Entry, Program, Trigger, Lock, Ask, Locks, Event, Trans, Batch, Put, Disk, Seat, Top, Cache, Journal, Page, Slot, Btree: shapes and the laws' walks (sh). Printed by gen_fam.py. -/
import Derived.Test.YtfibjcaidnofmaaGreatDoorJoinEXAh
import Derived.Test.YtfibjcaidnofmaaGreatDoorJoinEXAj
namespace Go.Proofs.YtfibjcaidnofmaaGreatDoor
open Go.RowKit

/-! ### Ins -/

/-! ### Entry -/

/-! ### Program -/

/-! ### Lock -/

/-! ### Ask -/

/-! ### Locks -/

/-! ### Trans -/

/-! ### Disk -/

/-! ### Top -/

/-! ### Slot -/

/-! ### Btree -/

end Go.Proofs.YtfibjcaidnofmaaGreatDoor

