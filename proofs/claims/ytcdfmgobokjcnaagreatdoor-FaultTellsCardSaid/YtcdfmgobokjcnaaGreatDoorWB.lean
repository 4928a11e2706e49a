/- Parts Bld, Wr0, Wr1 of this claim, laid one behind the other: walks and the plain laws behind them; each contract states its own conditions. -/
import Derived.Shelf.Strings.BuilderK
import Derived.WalkSmall
import Derived.ChangeBears2
import Derived.Lib.SmallJoins
import Derived.Test.YtcdfmgobokjcnaaGreatDoorZB
import Derived.Test.YtcdfmgobokjcnaaGreatDoorShelf
/- (*strings.Builder).copyCheck, WriteByte, WriteString over this seat's translation: the shelf's own contracts of these three do not lie down here (their copyCheck's panic is refused by the loader); the walks follow the shelf's. -/
namespace Go.Proofs.YtcdfmgobokjcnaaGreatDoor
open Go.RowKit

end Go.Proofs.YtcdfmgobokjcnaaGreatDoor
/- Strings and builders for the walks of package wire. -/
namespace Go.Proofs.YtcdfmgobokjcnaaGreatDoor
set_option linter.unusedSimpArgs false
set_option linter.unusedVariables false
open Go.RowKit

theorem Tryz.gPow : Tryz.prog.globalNamed "internal/strconv.uint64pow10" = some 3 := by kernel_rfl
/-- What strconv asks of the world: its table of powers. -/
def PowT (w : World) : Prop := Lib.TabIs Tryz.prog w "internal/strconv.uint64pow10" .u64 Lib.pow10Tab
theorem PowT.below {w w' : World} (h : PowT w) (hb : Below w.heap.size w w') : PowT w' := by
  have h0 : w.cell? ⟨3, 0, none⟩ = some (.int .u64 1) := by
    rw [World.var?_cell Tryz.gPow h 0]; rfl
  exact var?_below hb Tryz.gPow (cell_block_lt h0) h
/-- The bytes of a string. -/
def bs (s : ByteArray) : List UInt8 := s.data.toList
theorem bs_len (s : ByteArray) : (bs s).length = s.size := by simp [bs]
theorem bs_append (a b : ByteArray) : bs (a ++ b) = bs a ++ bs b := by simp [bs]
theorem bs_lit0 (l : List UInt8) : bs ⟨l.toArray⟩ = l := by simp [bs]
theorem bs_inj {a b : ByteArray} (h : bs a = bs b) : a = b := by
  cases a; cases b
  unfold bs at h
  congr 1
  exact Array.toList_inj.1 h
/-- What answers a string of known bytes. -/
def SP (l : List UInt8) (w : World) (e : Ending) (w' : World) : Prop := ∃ D : ByteArray, bs D = l ∧ D.size = l.length ∧ e = .returned (.string D) ∧ Below w.heap.size w w'
theorem below_grow (w : World) (os : Array Obj) : Below w.heap.size w (Go.Sort.grow w os) :=
  ⟨rfl, rfl, rfl, by simp [Go.Sort.grow], fun k hk => by simp [Go.Sort.grow, Array.getElem?_append_left hk]⟩
theorem Itoa_any (n : Int) (h : Wr.I64 n) (w : World) (hT : PowT w) : Calls Tryz.prog 66 #[.int .i64 n] w (SP (Lib.itoa n) w) := by
  refine (Tryz.strconv_Itoa n h.1 h.2 w hT).mono ?_
  rintro e w' ⟨rfl, k, os, rfl⟩
  exact ⟨_, bs_lit0 _, by rw [← bs_len, bs_lit0], rfl, (below_drewN _ _ _).trans (below_grow (w.drewN k) os)⟩
end Go.Proofs.YtcdfmgobokjcnaaGreatDoor
/- Walks of package wire: Int, Num, Text, list, Nums. -/
namespace Go.Proofs.YtcdfmgobokjcnaaGreatDoor
set_option linter.unusedSimpArgs false
set_option linter.unusedVariables false
open Go.RowKit

set_option maxRecDepth 100000 in
set_option maxHeartbeats 4000000 in
theorem wInt_any (n : Int) (h : Wr.I64 n) (w : World) (hT : PowT w) : Calls Tryz.prog 41 #[.int .i64 n] w (SP (Wr.int n) w) := by
  have HL := Lib.itoa_length_le n h.1 h.2
  have HC := Lib.hid (fun W (hb : Below w.heap.size w W) => Itoa_any n h W (hT.below hb))
  obtain ⟨l, hl⟩ : ∃ l, l = Lib.itoa n := ⟨_, rfl⟩
  have HG : Hid (Wr.int n = l ++ [59]) := Lib.hid (by rw [hl]; rfl)
  rw [← hl] at HC HL
  clear hT h hl
  go_enter Tryz.func41, Tryz.ntmps41
  go_wp2_with fail
  go_at_call 66; refine (HC.out w (Below.refl _ _)).mono ?_; rintro e w1 ⟨D, hD, hs, rfl, b1⟩
  have HD := Lib.hid hD
  have HB := Lib.hid b1
  have hs2 : D.size ≤ 21 := by omega
  have HS := Lib.hid hs
  clear hD b1 hs HL
  go_wp2_with fail
  go_ret
  exact ⟨D ++ ⟨#[59]⟩, by rw [bs_append, HD.out, HG.out]; rfl, by rw [ByteArray.size_append, HS.out, HG.out, List.length_append]; rfl, rfl, HB.out⟩
theorem flat_take {α : Type} {f : α → Wr.B} {l : List α} {k : Nat} (h : k < l.length) : ((l.take (k + 1)).map f).flatten = ((l.take k).map f).flatten ++ f l[k] := by
  rw [List.take_succ_eq_append_getElem h, List.map_append, List.flatten_append]; simp
end Go.Proofs.YtcdfmgobokjcnaaGreatDoor
