/- Parts TxW, TxC, TxO, TxP, Bld, TxB, TxE, Sl, TxL, TxQ, TxS, TxU, TxLaw3 of this claim, laid one behind the other: walks and the plain laws behind them; each contract states its own conditions. -/
import Derived.Test.YtnccndfffmaonaaGreatDoorRows
import Derived.Test.YtnccndfffmaonaaGreatDoorZA
import Derived.WalkKit
import Derived.WalkSpells
import Derived.WalkLawsBesides
import Derived.Lib.Hide
import Derived.Test.YtnccndfffmaonaaGreatDoorShelf
import Derived.Deep.QuietTactic
import Derived.BigQuiet
import Derived.WalkMore
import Derived.Shelf.Strings.BuilderK
import Derived.WalkSmall
import Derived.ChangeBears2
import Derived.Lib.SmallJoins
import Derived.Laws.AppendOwnNone
import Derived.Lib.SplitLaws
import Derived.Lib.FieldsP
import Derived.StillTailTactics
import Derived.StillTactics
import Derived.Lib.ItoaLen
/- Walks of package text: in, closing, class, one. -/
namespace Go.Proofs.YtnccndfffmaonaaGreatDoor
open Go.RowKit

theorem ret_int {k : IntKind} {a b : Int} (h : a = b) : Ending.returned (.int k a) = .returned (.int k b) := by rw [h]
theorem ret_bool {a b : Bool} (h : a = b) : Ending.returned (.bool a) = .returned (.bool b) := by rw [h]
theorem ret_str {a b : ByteArray} (h : a = b) : Ending.returned (.string a) = .returned (.string b) := by rw [h]
/-- The bytes of a string. -/
def bs (s : ByteArray) : List UInt8 := s.data.toList
theorem bs_len (s : ByteArray) : (bs s).length = s.size := by simp [bs]
theorem bs_get (s : ByteArray) (k : Nat) (h : k < s.size) : (bs s)[k]? = some s[k] := by
  have : k < (bs s).length := by rw [bs_len]; exact h
  rw [List.getElem?_eq_getElem this]; rfl
theorem bs_drop (s : ByteArray) (k : Nat) (h : k < s.size) : (bs s).drop k = s[k] :: (bs s).drop (k + 1) := by
  have hk : k < (bs s).length := by rw [bs_len]; exact h
  rw [List.drop_eq_getElem_cons hk]; rfl
theorem bs_take (s : ByteArray) (k : Nat) (h : k < s.size) : (bs s).take (k + 1) = (bs s).take k ++ [s[k]] := by
  have hk : k < (bs s).length := by rw [bs_len]; exact h
  rw [List.take_succ_eq_append_getElem hk]; rfl
theorem u8_eq (a b : UInt8) : ((a.toNat : Int) == (b.toNat : Int)) = (a == b) := by
  rw [Bool.eq_iff_iff, beq_iff_eq, beq_iff_eq, ← UInt8.toNat_inj]; omega
theorem u8_ne {a b : UInt8} (h : a ≠ b) : ((a.toNat : Int) == (b.toNat : Int)) = false := by rw [u8_eq]; simpa using h
theorem u8_is {a b : UInt8} (h : a = b) : ((a.toNat : Int) == (b.toNat : Int)) = true := by rw [u8_eq]; simpa using h
theorem u8_le {a b : UInt8} (h : a ≤ b) : (a.toNat : Int) ≤ (b.toNat : Int) := by have := UInt8.le_iff_toNat_le.1 h; omega
theorem u8_lt {a b : UInt8} (h : ¬ a ≤ b) : (b.toNat : Int) < (a.toNat : Int) := by rw [UInt8.le_iff_toNat_le] at h; omega

namespace Pat
theorem inSet_nil (c : UInt8) : inSet [] c = false := rfl
theorem inSet_range (a b : UInt8) (r : List UInt8) (c : UInt8) : inSet (a :: 45 :: b :: r) c = ((decide (a ≤ c) && decide (c ≤ b)) || inSet r c) := by rw [inSet]
theorem inSet_byte (a : UInt8) (l : List UInt8) (c : UInt8) (h : ∀ b r, l ≠ 45 :: b :: r) : inSet (a :: l) c = (a == c || inSet l c) := by
  rw [inSet]
  · intro b r; rintro rfl; exact h _ _ rfl
end Pat

/-- Where a closing bracket stands, as the code says it. -/
def Pat.closingAt (p : List UInt8) (first : Nat) : Int := match Pat.closing (p.drop first) with | some j => (first + j : Nat) | none => -1
theorem Pat.closing_idx (l : List UInt8) : Pat.closing l = match (l.drop 1).findIdx? (· == 93) with | some n => some (n + 1) | none => none := by
  unfold Pat.closing; cases (l.drop 1).findIdx? (· == 93) <;> rfl
theorem Pat.closingAt_bd (p : List UInt8) (first : Nat) : -1 ≤ Pat.closingAt p first ∧ Pat.closingAt p first < p.length + 1 ∧ (0 ≤ Pat.closingAt p first → first + 1 ≤ Pat.closingAt p first ∧ Pat.closingAt p first < p.length) := by
  unfold Pat.closingAt
  cases h : Pat.closing (p.drop first) with
  | none => simp; omega
  | some j => have := Pat.closing_lt h; simp at this; simp; omega

theorem indexByte_find (l : List UInt8) (c : UInt8) : Lib.indexByte l c = match l.findIdx? (· == c) with | some n => (n : Int) | none => -1 := by
  induction l with
  | nil => rfl
  | cons b l ih =>
    rw [Lib.indexByte, List.findIdx?_cons, ih]
    cases hb : (b == c) with
    | true => rfl
    | false =>
      cases h : l.findIdx? (· == c) with
      | none => simp
      | some n => first | (simp; done) | (simp; omega)
theorem Pat.closingAt_index (p : List UInt8) (first : Nat) : Pat.closingAt p first = if Lib.indexByte (p.drop (first + 1)) 93 < 0 then -1 else (first : Int) + 1 + Lib.indexByte (p.drop (first + 1)) 93 := by
  unfold Pat.closingAt Pat.closing
  rw [List.drop_drop, indexByte_find]
  cases h : (p.drop (first + 1)).findIdx? (· == 93) with
  | none => simp
  | some n => simp only [Option.map_some]; rw [if_neg (by omega)]; omega
theorem indexByte_lt (l : List UInt8) (c : UInt8) : -1 ≤ Lib.indexByte l c ∧ Lib.indexByte l c < l.length + 1 := by
  rw [indexByte_find]
  cases h : l.findIdx? (· == c) with
  | none => simp; omega
  | some n => have := (List.findIdx?_eq_some_iff_getElem.1 h).1; simp; omega

/-- What class hands back. -/
def clsVal (i : Nat) (set : ByteArray) : Option (Bool × List UInt8 × Nat) → Value
  | some (neg, _, n) => .tuple #[.int .i64 ((i + n - 1 : Nat) : Int), .bool neg, .string set, .bool true]
  | none => .tuple #[.int .i64 0, .bool false, .string ⟨#[]⟩, .bool false]
theorem closing_some {p : ByteArray} {first : Nat} {j : Nat} (h : Pat.closing ((bs p).drop first) = some j) : Pat.closingAt (bs p) first = ((first + j : Nat) : Int) ∧ first + j < p.size := by
  have := Pat.closing_lt h
  rw [List.length_drop, bs_len] at this
  unfold Pat.closingAt; rw [h]; exact ⟨rfl, by omega⟩
theorem closing_none {p : ByteArray} {first : Nat} (h : Pat.closing ((bs p).drop first) = none) : Pat.closingAt (bs p) first = -1 := by
  unfold Pat.closingAt; rw [h]
theorem bs_extract (p : ByteArray) (a b : Nat) : bs (p.extract a b) = ((bs p).drop a).take (b - a) := Lib.extract_data p a b

end Go.Proofs.YtnccndfffmaonaaGreatDoor
/- Walks of package text: class, one. -/
namespace Go.Proofs.YtnccndfffmaonaaGreatDoor
open Go.RowKit

theorem Pat.cls_plain (a : UInt8) (l : List UInt8) (h : a ≠ 33) : cls (a :: l) = plainCls (a :: l) := by
  unfold cls; split
  · rename_i r e; exact absurd (List.cons.inj e).1 h
  · rfl
theorem clsVal_none (i : Nat) (a : ByteArray) : clsVal i a none = .tuple #[.int .i64 0, .bool false, .string ⟨#[]⟩, .bool false] := rfl

end Go.Proofs.YtnccndfffmaonaaGreatDoor
/- Walks of package text: one. -/
namespace Go.Proofs.YtnccndfffmaonaaGreatDoor
set_option linter.unusedSimpArgs false
open Go.RowKit

theorem Pat.cls_set_len {r : List UInt8} {x : Bool × List UInt8 × Nat} (h : cls r = some x) : x.2.1.length ≤ r.length := by
  have hp : ∀ r x, plainCls r = some x → x.2.1.length ≤ r.length := by
    intro r x h
    obtain ⟨j, hj, rfl⟩ := Option.map_eq_some_iff.1 h
    simp; omega
  unfold cls at h
  split at h
  · rename_i r
    split at h
    · cases h
      simp; omega
    · exact hp _ _ h
  · exact hp _ _ h

end Go.Proofs.YtnccndfffmaonaaGreatDoor
/- Walks of package text: Pattern. -/
namespace Go.Proofs.YtnccndfffmaonaaGreatDoor
set_option linter.unusedSimpArgs false
open Go.RowKit

theorem nat_eqb {a b : Nat} (h : a = b) : ((a : Int) == (b : Int)) = true := by subst h; simp
theorem nat_neb {a b : Nat} (h : a ≠ b) : ((a : Int) == (b : Int)) = false := by
  rw [beq_eq_false_iff_ne]; omega
end Go.Proofs.YtnccndfffmaonaaGreatDoor
/- (*strings.Builder).copyCheck, WriteByte, WriteString over this seat's translation: the shelf's own contracts of these three do not lie down here (their copyCheck's panic is refused by the loader); the walks follow the shelf's. -/
namespace Go.Proofs.YtnccndfffmaonaaGreatDoor
open Go.RowKit

theorem Tryz.bldSize : (Tryz.prog.info? 67).map (·.size) = some 2 := by kernel_rfl
theorem Tryz.bldByte : (Tryz.prog.info? 5).map (fun i => (i.zero, i.size, i.bytes)) = some (some (.int .u8 0), 1, 1) := by kernel_rfl

set_option maxHeartbeats 1000000 in
set_option maxRecDepth 100000 in
theorem copyCheck_used (b : Nat) (w : World) (h0 : w.cell? ⟨b, 0, none⟩ = some (.pointer (some ⟨b, 0, none⟩))) :
    Calls Tryz.prog 63 #[.pointer (some ⟨b, 0, none⟩)] w fun e w' => e = .returned (.tuple #[]) ∧ w' = w := by
  obtain ⟨j, hj, _⟩ := Option.map_eq_some_iff.1 Tryz.bldSize
  go_enter Tryz.func63, Tryz.ntmps63
  go_wp2
  rw [Lib.run_neq_ptr_same w _ Tryz.underlying64 hj]
  go_wp2
  go_end0
  exact ⟨rfl, rfl⟩

set_option maxHeartbeats 1000000 in
set_option maxRecDepth 100000 in
theorem copyCheck_fresh (b : Nat) (w : World) (h0 : w.cell? ⟨b, 0, none⟩ = some (.pointer none)) (hsh : w.shape? b = some (67, 2)) (hfz : w.frozen? ⟨b, 0, none⟩ = false) :
    Calls Tryz.prog 63 #[.pointer (some ⟨b, 0, none⟩)] w fun e w' => e = .returned (.tuple #[]) ∧ w' = w.setCell ⟨b, 0, none⟩ (.pointer (some ⟨b, 0, none⟩)) := by
  obtain ⟨j, hj, hjs⟩ := Option.map_eq_some_iff.1 Tryz.bldSize
  go_enter Tryz.func63, Tryz.ntmps63
  go_wp2
  rw [Lib.run_to_unsafe w ⟨b, 0, none⟩ Tryz.underlying64 Tryz.underlying112 hj (by rw [hjs]; decide) hsh (Nat.zero_lt_succ 1)]
  simp only [Result.andThen]
  rw [Oper.upon_value]
  go_wp2
  rw [run_callFunc_extern Tryz.func89 (by kernel_rfl) (by kernel_rfl) (by kernel_rfl) (e := Extern.AbiNoEscape.same) (by kernel_rfl)]
  rw [Lib.run_noEscape]
  simp only [Result.andThen]
  rw [Oper.upon_value]
  go_wp2
  rw [Lib.run_from_unsafe w ⟨b, 0, none⟩ Tryz.underlying112 Tryz.underlying64 hj hsh (by kernel_rfl)]
  simp only [Result.andThen]
  rw [Oper.upon_value]
  go_wp2
  go_end0
  exact ⟨rfl, rfl⟩

/-- Behind copyCheck the builder holds its own address; every block that is not the builder's and no row of bytes stands as it stood. -/
theorem copyCheck_any (B b : Nat) (l : List Value) (w : World) (h : Lib.IsBuilderF 67 5 B b l w) :
    Calls Tryz.prog 63 #[.pointer (some ⟨b, 0, none⟩)] w fun e w' => e = .returned (.tuple #[]) ∧ (Lib.BuilderAtF 67 5 B b (.pointer (some ⟨b, 0, none⟩)) l w' ∧ Below B w w' ∧ Lib.OthersKept 5 (some b) w w') := by
  rcases h with h | h
  · refine (copyCheck_fresh b w h.cell0 h.shape h.frozen0).mono ?_
    rintro e w' ⟨rfl, rfl⟩
    exact ⟨rfl, h.used _, (Below.refl B w).setCell (p := ⟨b, 0, none⟩) h.1 _, (Lib.OthersKept.refl _ _ w).setCell ⟨b, 0, none⟩ rfl _⟩
  · refine (copyCheck_used b w h.cell0).mono ?_
    rintro e w' ⟨rfl, rfl⟩
    exact ⟨rfl, h, Below.refl B _, Lib.OthersKept.refl _ _ _⟩

set_option maxHeartbeats 2000000 in
set_option maxRecDepth 100000 in
theorem WriteByte_any (B b : Nat) (l : List Value) (c : Int) (w : World) (h : Lib.IsBuilderF 67 5 B b l w) (hlen : l.length + 1 ≤ 140737488355328) (hBw : B ≤ w.heap.size) :
    Calls Tryz.prog 64 #[.pointer (some ⟨b, 0, none⟩), .int .u8 c] w fun e w' => e = .returned .nilIface ∧ (Lib.IsBuilderF 67 5 B b (l ++ [.int .u8 c]) w' ∧ Below B w w' ∧ Lib.OthersKept 5 (some b) w w') := by
  obtain ⟨i0, hi, hz0, hz1, hz2⟩ := info_parts Tryz.bldByte
  go_enter Tryz.func64, Tryz.ntmps64
  go_wp2_with (go_at_call 63; refine (copyCheck_any B b l _ h).mono ?_)
  rintro e w1 ⟨rfl, h1, hb1, hk1⟩
  obtain ⟨hB, v, hbk, hown, hne⟩ := h1
  have c0 : w1.cell? ⟨b, 0, none⟩ = some (.pointer (some ⟨b, 0, none⟩)) := by rw [Lib.cell_of_heap hbk]; rfl
  have c1 : w1.cell? ⟨b, 1, none⟩ = some v := by rw [Lib.cell_of_heap hbk]; rfl
  go_wp2_with (at_builtin; refine wpList_append_ownF _ rfl _ _ 65 rfl B 5 i0 (.int .u8 0) 1 1 Tryz.underlying65 hi hz0 hz1 hz2 rfl (by decide) _ _ _ rfl (hown.alloc _) ⟨w1.heap.size, 0, none⟩ 1 1 [.int .u8 c] rfl rfl ?c1 ?c2 ?c3 ?c4 ?c5 ?_)
  case c1 =>
    intro j u hj
    match j, hj with
    | 0, hj => simp at hj; subst hj; simp [Addr.add]
  case c2 => intro u hu; simp at hu; subst hu; rfl
  case c3 => unfold maxLen; omega
  case c4 => omega
  case c5 => have := hb1.size; simp; omega
  intro v' w2 hown' hgrow _
  have hlt : b < w1.heap.size := by
    rcases Nat.lt_or_ge b w1.heap.size with h' | h'
    · exact h'
    · simp [Array.getElem?_eq_none h'] at hbk
  have hb2 : w2.heap[b]? = some (.cells #[.pointer (some ⟨b, 0, none⟩), v] 67 (0, 0)) := by
    rw [hgrow.block b (by simp; omega) (fun e => hne e.symm), Lib.alloc_old w1 _ b hlt]
    exact hbk
  have d0 : w2.cell? ⟨b, 0, none⟩ = some (.pointer (some ⟨b, 0, none⟩)) := by rw [Lib.cell_of_heap hb2]; rfl
  have d1 : w2.cell? ⟨b, 1, none⟩ = some v := by rw [Lib.cell_of_heap hb2]; rfl
  have f1 : w2.frozen? ⟨b, 1, none⟩ = false := Lib.frozen_of_heap hb2 1
  obtain ⟨g, cap, rfl⟩ : ∃ g cap, v' = .slice (some ⟨g, 0, none⟩) (l.length + 1) cap := by
    rcases hown'.2 with ⟨_, h0⟩ | ⟨g, cap, cur, fz, hv, _⟩
    · omega
    · exact ⟨g, cap, hv⟩
  go_wp2
  go_ret
  refine ⟨rfl, .inr ?_, ?_, ((hk1.alloc _).grown hgrow (Lib.ownsRowF_kind (hown.alloc _))).setCell ⟨b, 1, none⟩ rfl _⟩
  · exact Lib.BuilderAtF.put (T := 67) (e := 5) hB hb2 (bs' := l ++ [.int .u8 c]) (by simpa using hown') (by decide)
  · exact ((hb1.alloc (by have := hb1.size; omega) _).grown hgrow (by have := hb1.size; simp; omega) (fun k hk => (hown.lt k hk).1)).setCell (p := ⟨b, 1, none⟩) hB _

set_option maxHeartbeats 2000000 in
set_option maxRecDepth 100000 in
theorem WriteString_any (B b : Nat) (l : List Value) (s : ByteArray) (w : World) (h : Lib.IsBuilderF 67 5 B b l w) (hlen : l.length + s.size ≤ 140737488355328) (hBw : B ≤ w.heap.size) :
    Calls Tryz.prog 34 #[.pointer (some ⟨b, 0, none⟩), .string s] w fun e w' => e = .returned (.tuple #[.int .i64 s.size, .nilIface]) ∧ (Lib.IsBuilderF 67 5 B b (l ++ Lib.strCells s) w' ∧ Below B w w' ∧ Lib.OthersKept 5 (some b) w w') := by
  obtain ⟨i0, hi, hz0, hz1, hz2⟩ := info_parts Tryz.bldByte
  go_enter Tryz.func34, Tryz.ntmps34
  go_wp2_with (go_at_call 63; refine (copyCheck_any B b l _ h).mono ?_)
  rintro e w1 ⟨rfl, h1, hb1, hk1⟩
  obtain ⟨hB, v, hbk, hown, hne⟩ := h1
  have c0 : w1.cell? ⟨b, 0, none⟩ = some (.pointer (some ⟨b, 0, none⟩)) := by rw [Lib.cell_of_heap hbk]; rfl
  have c1 : w1.cell? ⟨b, 1, none⟩ = some v := by rw [Lib.cell_of_heap hbk]; rfl
  go_wp2_with (at_builtin; refine Lib.wpList_append_own_stringF _ rfl _ _ 65 9 rfl B 5 i0 Tryz.underlying65 Tryz.underlying9 hi hz0 hz1 hz2 _ _ _ rfl hown s rfl ?c3 ?c4 ?c5 ?_)
  case c3 => unfold maxLen; omega
  case c4 => omega
  case c5 => have := hb1.size; omega
  intro v' w2 hown' hgrow _
  have hlt : b < w1.heap.size := by
    rcases Nat.lt_or_ge b w1.heap.size with h' | h'
    · exact h'
    · simp [Array.getElem?_eq_none h'] at hbk
  have hb2 : w2.heap[b]? = some (.cells #[.pointer (some ⟨b, 0, none⟩), v] 67 (0, 0)) := by
    rw [hgrow.block b hlt (fun e => hne e.symm)]
    exact hbk
  have d0 : w2.cell? ⟨b, 0, none⟩ = some (.pointer (some ⟨b, 0, none⟩)) := by rw [Lib.cell_of_heap hb2]; rfl
  have d1 : w2.cell? ⟨b, 1, none⟩ = some v := by rw [Lib.cell_of_heap hb2]; rfl
  have f1 : w2.frozen? ⟨b, 1, none⟩ = false := Lib.frozen_of_heap hb2 1
  obtain ⟨ao, n', cap, rfl⟩ : ∃ ao n' cap, v' = .slice ao n' cap := by
    rcases hown'.2 with ⟨hv, _⟩ | ⟨g, cap, cur, fz, hv, _⟩
    · exact ⟨_, _, _, hv⟩
    · exact ⟨_, _, _, hv⟩
  go_wp2
  go_ret2
  refine ⟨rfl, .inr ?_, ?_, (hk1.grown hgrow (Lib.ownsRowF_kind hown)).setCell ⟨b, 1, none⟩ rfl _⟩
  · exact Lib.BuilderAtF.put (T := 67) (e := 5) hB hb2 (bs' := l ++ Lib.strCells s) (by simpa [Lib.strCells_length] using hown') (by decide)
  · exact (hb1.grown hgrow (by have := hb1.size; omega) (fun k hk => (hown.lt k hk).1)).setCell (p := ⟨b, 1, none⟩) hB _
end Go.Proofs.YtnccndfffmaonaaGreatDoor
/- A builder of a call's own, and Escape. -/
namespace Go.Proofs.YtnccndfffmaonaaGreatDoor
set_option linter.unusedSimpArgs false
open Go.RowKit

theorem u8_back (c : UInt8) : ((c.toNat : Int)).toNat.toUInt8 = c := by simp
/-- A call's own builder: block B, laid first by the call; it holds the bytes l. -/
def Bw (w0 : World) (l : List UInt8) (w : World) : Prop := Lib.IsBuilderF 67 5 w0.heap.size w0.heap.size (Lib.byteCells l) w ∧ Below w0.heap.size w0 w
theorem Bw.start (w : World) : Bw w [] (w.alloc (.cells #[.pointer none, .slice none 0 0] 67)) :=
  ⟨Lib.IsBuilderF.of (Lib.fresh_isBuilder _ _ w), (Below.refl _ w).alloc (Nat.le_refl _) _⟩
theorem Bw.drewN {w0 : World} {l : List UInt8} {w : World} (h : Bw w0 l w) (k : Nat) : Bw w0 l (w.drewN k) :=
  ⟨h.1, h.2.trans ⟨rfl, rfl, rfl, Nat.le_refl _, fun _ _ => rfl⟩⟩
theorem Bw.below {w0 : World} {l : List UInt8} {w : World} (h : Bw w0 l w) : Below w0.heap.size w0 w := h.2
theorem Bw.writeByte {w0 : World} {l : List UInt8} {w : World} (h : Bw w0 l w) (c : UInt8) (hl : l.length + 1 ≤ 140737488355328) :
    Calls Tryz.prog 64 #[.pointer (some ⟨w0.heap.size, 0, none⟩), .int .u8 c.toNat] w fun e w' => e = .returned .nilIface ∧ Bw w0 (l ++ [c]) w' := by
  refine (WriteByte_any w0.heap.size w0.heap.size (Lib.byteCells l) c.toNat w h.1 (by simpa [Lib.byteCells] using hl) h.2.size).mono ?_
  rintro e w' ⟨rfl, h1, h2, -⟩
  refine ⟨rfl, ?_, h.2.trans h2⟩
  have : Lib.byteCells (l ++ [c]) = Lib.byteCells l ++ [.int .u8 c.toNat] := by simp [Lib.byteCells]
  rw [this]; exact h1
theorem Bw.writeString {w0 : World} {l : List UInt8} {w : World} (h : Bw w0 l w) (s : ByteArray) (hl : l.length + s.size ≤ 140737488355328) :
    Calls Tryz.prog 34 #[.pointer (some ⟨w0.heap.size, 0, none⟩), .string s] w fun e w' => e = .returned (.tuple #[.int .i64 s.size, .nilIface]) ∧ Bw w0 (l ++ bs s) w' := by
  refine (WriteString_any w0.heap.size w0.heap.size (Lib.byteCells l) s w h.1 (by simpa [Lib.byteCells] using hl) h.2.size).mono ?_
  rintro e w' ⟨rfl, h1, h2, -⟩
  refine ⟨rfl, ?_, h.2.trans h2⟩
  have : Lib.byteCells (l ++ bs s) = Lib.byteCells l ++ Lib.strCells s := by rw [Lib.strCells_eq]; simp [Lib.byteCells, bs]
  rw [this]; exact h1
theorem Bw.string {w0 : World} {l : List UInt8} {w : World} (h : Bw w0 l w) :
    Calls Tryz.prog 37 #[.pointer (some ⟨w0.heap.size, 0, none⟩)] w fun e w' => e = .returned (.string ⟨l.toArray⟩) ∧ Bw w0 l w' := by
  refine (Tryz.Builder_String_any_k w0.heap.size w0.heap.size l w h.1 h.2.size).mono ?_
  rintro e w' ⟨rfl, h1, h2, -⟩
  exact ⟨rfl, h1, h.2.trans h2⟩

def escB (c : UInt8) : List UInt8 := if 0 ≤ Lib.indexByte [42, 63, 91, 92] c then [92, c] else [c]
def esc (l : List UInt8) : List UInt8 := l.flatMap escB
theorem esc_len (l : List UInt8) : (esc l).length ≤ 2 * l.length := by
  induction l with
  | nil => simp [esc]
  | cons a l ih =>
    have : (escB a).length ≤ 2 := by unfold escB; split <;> simp
    simp only [esc, List.flatMap_cons, List.length_append, List.length_cons] at ih ⊢; omega

end Go.Proofs.YtnccndfffmaonaaGreatDoor
/- What the walks of package text ask of the world, and Int, Decimal, Lines, Fields. -/
namespace Go.Proofs.YtnccndfffmaonaaGreatDoor
set_option linter.unusedSimpArgs false
open Go.RowKit

theorem Tryz.gMax : Tryz.prog.globalNamed "internal/bytealg.MaxLen" = some 0 := by kernel_rfl
theorem Tryz.gSyn : Tryz.prog.globalNamed "strconv.ErrSyntax" = some 4 := by kernel_rfl
theorem Tryz.gRan : Tryz.prog.globalNamed "strconv.ErrRange" = some 5 := by kernel_rfl
theorem Tryz.gPow : Tryz.prog.globalNamed "internal/strconv.uint64pow10" = some 1 := by kernel_rfl
structure Env (w : World) : Prop where
  mx : ∃ m, w.cell? ⟨0, 0, none⟩ = some (.int .i64 m)
  syn : ∃ ev, w.cell? ⟨4, 0, none⟩ = some ev ∧ (ev = .nilIface ∨ ∃ te pe, ev = .iface te pe)
  ran : ∃ ev, w.cell? ⟨5, 0, none⟩ = some ev ∧ (ev = .nilIface ∨ ∃ te pe, ev = .iface te pe)
  pow : Lib.TabIs Tryz.prog w "internal/strconv.uint64pow10" .u64 Lib.pow10Tab
theorem cell_lt {w : World} {a : Addr} {v : Value} (h : w.cell? a = some v) : a.block < w.heap.size := by
  rcases Nat.lt_or_ge a.block w.heap.size with h' | h'
  · exact h'
  · simp [World.cell?, Array.getElem?_eq_none h'] at h
theorem Env.below {w w' : World} (h : Env w) (hb : Below w.heap.size w w') : Env w' := by
  refine ⟨?_, ?_, ?_, ?_⟩
  · obtain ⟨m, hm⟩ := h.mx; exact ⟨m, (hb.cell (cell_lt hm)).trans hm⟩
  · obtain ⟨m, hm, hx⟩ := h.syn; exact ⟨m, (hb.cell (cell_lt hm)).trans hm, hx⟩
  · obtain ⟨m, hm, hx⟩ := h.ran; exact ⟨m, (hb.cell (cell_lt hm)).trans hm, hx⟩
  · have h0 : w.cell? ⟨1, 0, none⟩ = some (.int .u64 1) := by
      rw [World.var?_cell Tryz.gPow h.pow 0]; rfl
    exact var?_below hb Tryz.gPow (cell_lt h0) h.pow
theorem Env.drewN {w : World} (h : Env w) (k : Nat) : Env (w.drewN k) := h.below ⟨rfl, rfl, rfl, Nat.le_refl _, fun _ _ => rfl⟩

theorem below_drewN (B : Nat) (w : World) (k : Nat) : Below B w (w.drewN k) := ⟨rfl, rfl, rfl, Nat.le_refl _, fun _ _ => rfl⟩
theorem below_grow (w : World) (os : Array Obj) : Below w.heap.size w (Go.Sort.grow w os) :=
  ⟨rfl, rfl, rfl, by simp [Go.Sort.grow], fun k hk => by simp [Go.Sort.grow, Array.getElem?_append_left hk]⟩

theorem FormatInt_b (n : Int) (h0 : -9223372036854775808 ≤ n) (h1 : n ≤ 9223372036854775807) (w : World) (hE : Env w) :
    Calls Tryz.prog 111 #[.int .i64 n, .int .i64 10] w fun e w' => e = .returned (.string ⟨(Lib.itoa n).toArray⟩) ∧ Below w.heap.size w w' := by
  refine (Tryz.strconv_FormatInt_10 n h0 h1 w hE.pow).mono ?_
  rintro e w' ⟨rfl, k, os, rfl⟩
  exact ⟨rfl, (below_drewN _ _ _).trans (below_grow (w.drewN k) os)⟩

set_option maxHeartbeats 4000000 in
theorem Decimal_any (n : Int) (h0 : -9223372036854775808 ≤ n) (h1 : n ≤ 9223372036854775807) (w : World) (hE : Env w) :
    Calls Tryz.prog 65 #[.int .i64 n] w fun e w' => e = .returned (.string ⟨(Lib.itoa n).toArray⟩) ∧ Below w.heap.size w w' := by
  have HE := Lib.hid hE.pow
  clear hE
  go_enter Tryz.func65, Tryz.ntmps65
  go_wp2_with fail
  go_at_call 90; refine (Tryz.strconv_Itoa n h0 h1 _ HE.out).mono ?_; rintro e w' ⟨rfl, k, os, rfl⟩
  go_wp2_with fail
  go_ret
  exact ⟨rfl, (below_drewN _ _ _).trans (below_grow (w.drewN k) os)⟩

theorem ParseInt_ok (s : ByteArray) (hs : s.size ≤ 1073741824) (v : Int) (h : Lib.parseIntB 64 (bs s) = .ok v) (w : World) :
    Calls Tryz.prog 110 #[.string s, .int .i64 10, .int .i64 64] w fun e w' => e = .returned (.tuple #[.int .i64 v, .nilIface]) ∧ Below w.heap.size w w' := by
  refine (Tryz.strconv_ParseInt_10_at64_ok s (by omega) v h w).mono ?_
  rintro e w' ⟨rfl, rfl | ⟨t, rfl⟩⟩
  · exact ⟨rfl, Below.refl _ _⟩
  · exact ⟨rfl, Go.Joins.below_bytesWorld _ _ _ _ (Nat.le_refl _)⟩
theorem ParseInt_bad (s : ByteArray) (hs : s.size ≤ 1073741824) (h : ∀ v, Lib.parseIntB 64 (bs s) ≠ .ok v) (w : World) (hE : Env w) :
    Calls Tryz.prog 110 #[.string s, .int .i64 10, .int .i64 64] w fun e w' => ∃ x N, e = .returned (.tuple #[.int .i64 x, .iface 151 (.pointer (some ⟨N, 0, none⟩))]) ∧ Below w.heap.size w w' := by
  cases hp : Lib.parseIntB 64 (bs s) with
  | ok v => exact absurd hp (h v)
  | «syntax» =>
    obtain ⟨ev, hv, hev⟩ := hE.syn
    refine (Tryz.strconv_ParseInt_10_at64_syntax s (by omega) hp ev w hv hev).mono ?_
    rintro e w' ⟨N, rfl, -, -, hb⟩
    exact ⟨_, N, rfl, hb⟩
  | range =>
    obtain ⟨ev, hv, hev⟩ := hE.ran
    refine (Tryz.strconv_ParseInt_10_at64_range s (by omega) hp ev w hv hev).mono ?_
    rintro e w' ⟨N, rfl, -, -, hb⟩
    exact ⟨_, N, rfl, hb⟩

theorem toList_bs (s : ByteArray) : s.toList = bs s := by
  obtain ⟨⟨l⟩⟩ := s
  simp [bs]
set_option maxHeartbeats 4000000 in
theorem Int_any (s : ByteArray) (w : World) (hE : Env w) (hs : s.size ≤ 1073741824) :
    Calls Tryz.prog 95 #[.string s] w fun e w' => e = .returned (.tuple #[.int .i64 ((intOfB (bs s)).getD 0), .bool (intOfB (bs s)).isSome]) ∧ Below w.heap.size w w' := by
  obtain ⟨I, hI⟩ : ∃ I, I = intOfB (bs s) := ⟨_, rfl⟩
  rw [← hI]
  unfold intOfB at hI
  have HE := Lib.hid hE
  clear hE
  by_cases hp : ∃ v, Lib.parseIntB 64 (bs s) = .ok v
  · obtain ⟨v, hp⟩ := hp
    rw [hp] at hI
    have hC := fun w => ParseInt_ok s hs v hp w
    obtain ⟨v0, v1⟩ := parse_bd hp
    have HC := Lib.hid hC
    clear hC hp
    dsimp only at hI
    by_cases heq : Lib.itoa v = bs s
    · rw [if_pos heq] at hI
      have HI := Lib.hid hI
      have hq : (Lib.itoa v == s.toList) = true := by rw [toList_bs, heq]; exact beq_self_eq_true _
      clear hI heq
      go_enter Tryz.func95, Tryz.ntmps95
      go_wp2_with fail
      go_at_call 110; refine (HC.out _).mono ?_; rintro e w' ⟨rfl, hb⟩
      go_wp2_with fail
      go_at_call 111; refine (FormatInt_b v v0 v1 _ (HE.out.below hb)).mono ?_; rintro e w2 ⟨rfl, hb2⟩
      go_wp2_with fail
      go_ret2
      exact ⟨by rw [HI.out]; rfl, hb.trans (hb2.mono hb.size)⟩
    · rw [if_neg heq] at hI
      have HI := Lib.hid hI
      have hq : (Lib.itoa v == s.toList) = false := by rw [toList_bs]; exact beq_eq_false_iff_ne.2 heq
      clear hI heq
      go_enter Tryz.func95, Tryz.ntmps95
      go_wp2_with fail
      go_at_call 110; refine (HC.out _).mono ?_; rintro e w' ⟨rfl, hb⟩
      go_wp2_with fail
      go_at_call 111; refine (FormatInt_b v v0 v1 _ (HE.out.below hb)).mono ?_; rintro e w2 ⟨rfl, hb2⟩
      go_wp2_with fail
      go_ret2
      exact ⟨by rw [HI.out]; rfl, hb.trans (hb2.mono hb.size)⟩
  · have hp' : ∀ v, Lib.parseIntB 64 (bs s) ≠ .ok v := fun v h => hp ⟨v, h⟩
    have hI2 : I = none := by
      rw [hI]
      split
      · rename_i v h; exact absurd h (hp' v)
      · rfl
    have HI := Lib.hid hI2
    have HP := Lib.hid hp'
    clear hI hI2 hp hp'
    go_enter Tryz.func95, Tryz.ntmps95
    go_wp2_with fail
    go_at_call 110; refine (ParseInt_bad s hs HP.out _ HE.out).mono ?_; rintro e w' ⟨x, N, rfl, hb⟩
    go_wp2_with fail
    go_ret2
    exact ⟨by rw [HI.out]; rfl, hb⟩
end Go.Proofs.YtnccndfffmaonaaGreatDoor
/- A slice of one-cell elements that reads as a list; append onto a row of the call's own from such a slice. -/
namespace Go.Proofs.YtnccndfffmaonaaGreatDoor
open Go.RowKit

/-- The slice value v holds the one-cell elements xs. -/
def Sl (w : World) (v : Value) (xs : List Value) : Prop :=
  ∃ a cap, v = .slice a xs.length cap ∧ xs.length ≤ maxLen ∧ (a = none → cap = 0) ∧ ∀ i, (h : i < xs.length) → ∃ b off, a = some ⟨b, off, none⟩ ∧ w.cell? ⟨b, off + i, none⟩ = some xs[i]

theorem Sl.nil (w : World) : Sl w (.slice none 0 0) [] := ⟨none, 0, rfl, by simp, fun _ => rfl, fun i h => by simp at h⟩
theorem cell_block_lt {w : World} {a : Addr} {v : Value} (h : w.cell? a = some v) : a.block < w.heap.size := by
  unfold World.cell? at h
  split at h
  · rename_i h'; exact (Array.getElem?_eq_some_iff.1 h').1
  · cases h
theorem Sl.below {w W : World} {v : Value} {xs : List Value} (h : Sl w v xs) (hb : Below w.heap.size w W) : Sl W v xs := by
  obtain ⟨a, cap, rfl, hm, hn, hc⟩ := h
  refine ⟨a, cap, rfl, hm, hn, fun i hi => ?_⟩
  obtain ⟨b, off, h1, h2⟩ := hc i hi
  exact ⟨b, off, h1, by rw [hb.cell (cell_block_lt h2)]; exact h2⟩
theorem Sl.of_own {w : World} {base : Nat} {e : TypeId} {v : Value} {n : Nat} {xs : List Value} (h : w.ownsRow base e 1 v n xs) (hm : n ≤ maxLen) : Sl w v xs := by
  have hl : xs.length = n := by have := h.1; omega
  rcases h.2 with ⟨rfl, rfl⟩ | ⟨g, cap, cur, rfl, hb, hh, hnc, hcm, hcs, ht⟩
  · obtain rfl : xs = [] := List.eq_nil_of_length_eq_zero hl
    exact Sl.nil w
  · refine ⟨some ⟨g, 0, none⟩, cap, by rw [hl], by omega, fun h => (by cases h), fun i hi => ⟨g, 0, rfl, ?_⟩⟩
    have hc := h.cells (g := g) rfl i xs[i] (by simp)
    have e2 : ((⟨g, 0, none⟩ : Addr).add i) = ⟨g, 0 + i, none⟩ := by unfold Addr.add; split <;> simp_all
    rw [e2] at hc; exact hc

theorem wpList_append_sl {P : Program} {w : World} {ops : Array Oper} {rest : List Oper} {o : Oper} {a : Act} {Q : Exit → Act → World → Prop} (hgd : o.guard = none) (s x : Operand) (t : TypeId)
    (ho : o.op = .call { callee := .builtin .append, args := #[s, x], argTypes := #[t, t] })
    (base : Nat) (e : TypeId) (z : Value) (bytes : Nat) (ht : P.underlying t = some (.slice e)) (hinfo : (P.info? e).map (fun i => (i.zero, i.size, i.bytes)) = some (some z, 1, bytes)) (hzs : z.cells.size = 1)
    (v : Value) (n : Nat) (xs : List Value) (hs : a.eval s = v) (hown : w.ownsRow base e 1 v n xs)
    (u : Value) (news : List Value) (hx : a.eval x = u) (hr : Sl w u news) (h1 : ∀ u ∈ news, u.oneCell' = true)
    (h63 : n + news.length ≤ maxLen) (hbytes : (n + news.length) * bytes ≤ 140737488355328) (hbase : base ≤ w.heap.size)
    (h : ∀ v' w', w'.ownsRow base e 1 v' (n + news.length) (xs ++ news) → w.grownBy w' v.ownBlock → wpList P ops Q rest (a.put o.dst v') w') : wpList P ops Q (o :: rest) a w := by
  obtain ⟨i, hi, hz, hsize, hby⟩ := info_parts hinfo
  obtain ⟨ad, cap, rfl, hm, hn, hc⟩ := hr
  cases ad with
  | none =>
    obtain rfl := hn rfl
    have h0 : news.length = 0 := by
      rcases Nat.eq_zero_or_pos news.length with h | h
      · exact h
      · obtain ⟨_, _, h', _⟩ := hc 0 h; cases h'
    obtain rfl : news = [] := List.eq_nil_of_length_eq_zero h0
    exact wpList_append_own_none hgd s x t ho base e i 1 ht hi v n xs hs hown hx (h v w (by simpa using hown) (World.grownBy.refl w _))
  | some ad =>
    refine wpList_append_own w hgd s x t ho base e i z 1 bytes ht hi hz hsize hby hzs (by omega) v n xs hs hown ad news.length cap news hx (by omega) (fun j u hu => ?_) h1 h63 hbytes hbase (fun v' w' h2 h3 _ => h v' w' h2 h3)
    obtain ⟨hj, he⟩ := List.getElem?_eq_some_iff.1 hu
    obtain ⟨b, off, h2, h3⟩ := hc j hj
    cases h2
    have e2 : ((⟨b, off, none⟩ : Addr).add j) = ⟨b, off + j, none⟩ := by unfold Addr.add; split <;> simp_all
    rw [e2, h3, he]
end Go.Proofs.YtnccndfffmaonaaGreatDoor
/- Walks of package text: Lines, Fields. -/
namespace Go.Proofs.YtnccndfffmaonaaGreatDoor
set_option linter.unusedSimpArgs false
open Go.RowKit

/-- A list of strings as values. -/
def strs (l : List (List UInt8)) : List Value := l.map fun x => .string ⟨x.toArray⟩
theorem mk_data (s : ByteArray) : (⟨s.data.toList.toArray⟩ : ByteArray) = s := by simp
theorem strs_data (l : List ByteArray) : strs (l.map fun s => s.data.toList) = l.map Value.string := by
  unfold strs; rw [List.map_map]
  apply List.map_congr_left; intro s _; simp

def lines (l : List UInt8) : List (List UInt8) := if l = [] then [] else Lib.split (Lib.trimSuffix l [10]) [10]
def white (n : Nat) : Bool := n == 32 || n == 9 || n == 10
def fieldsB (s : ByteArray) : List (List UInt8) := (Lib.goFieldsP white s).map fun s => s.data.toList

end Go.Proofs.YtnccndfffmaonaaGreatDoor
/- Walks of package text: Quote. -/
namespace Go.Proofs.YtnccndfffmaonaaGreatDoor
set_option linter.unusedSimpArgs false
open Go.RowKit

set_option maxHeartbeats 4000000 in
theorem Quote_any (s : ByteArray) (w : World) (hs : s.size ≤ 1073741824) :
    Calls Tryz.prog 35 #[.string s] w fun e w' => e = .returned (.string ⟨(quote (bs s)).toArray⟩) ∧ Below w.heap.size w w' := by
  have H0 := Lib.hid (Bw.start w)
  go_enter Tryz.func35, Tryz.ntmps35
  go_wp2_with fail
  go_at_call 64; refine (H0.out.writeByte 34 (by simp)).mono ?_; rintro e w1 ⟨rfl, HB1⟩
  replace HB1 := Lib.hid HB1
  go_wp2_with fail
  go_loopw [9] (fun iv wr => ∃ k : Nat, k ≤ s.size ∧ iv = .int .i64 k ∧ Hid (Bw w (34 :: qb ((bs s).take k)) wr)) (fun iv _ => s.size - (intOf iv).toNat)
  case atStart => exact ⟨0, by omega, rfl, HB1⟩
  case round =>
    obtain ⟨k, hk, rfl, HB⟩ := hrel
    clear H0 HB1
    by_cases hlt : k < s.size
    · have hstep : 34 :: qb ((bs s).take (k + 1)) = 34 :: qb ((bs s).take k) ++ qt1 s[k] := by
        rw [bs_take s k hlt]; simp [qb]
      have hlen : (34 :: qb ((bs s).take k)).length ≤ 4 * k + 1 := by
        have := qb_len ((bs s).take k)
        rw [List.length_take] at this; rw [List.length_cons]; omega
      obtain ⟨l, hl⟩ : ∃ l, l = 34 :: qb ((bs s).take k) := ⟨_, rfl⟩
      rw [← hl] at HB hstep hlen
      clear hl
      obtain ⟨c, hc⟩ : ∃ c, c = s[k] := ⟨_, rfl⟩
      have hidx : s[k] = c := hc.symm
      rw [hidx] at hstep
      clear hc
      by_cases h34 : c = 34
      · have hx : ((c.toNat : Int) == 34) = true := u8_is (b := 34) h34
        rw [show qt1 c = [92, c] by rw [qt1, if_pos (.inl h34)]] at hstep
        have HS := Lib.hid hstep
        clear hstep h34
        go_wp2_with fail
        go_at_call 64; refine (HB.out.writeByte (92) (by simp; omega)).mono ?_; rintro e w' ⟨rfl, HB2⟩
        replace HB2 := Lib.hid HB2
        go_wp2_with fail
        go_at_call 64; refine (HB2.out.writeByte (c) (by simp; omega)).mono ?_; rintro e w' ⟨rfl, HB3⟩
        replace HB3 := Lib.hid HB3
        go_wp2_with fail
        go_roundw
        case rel => exact ⟨k + 1, by omega, by go_num, by rw [HS.out]; simpa [bs] using HB3⟩
        case measure => simp [intOf]; omega
      · have hx : ((c.toNat : Int) == 34) = false := u8_ne (b := 34) h34
        by_cases h92 : c = 92
        · have hy : ((c.toNat : Int) == 92) = true := u8_is (b := 92) h92
          rw [show qt1 c = [92, c] by rw [qt1, if_pos (.inr h92)]] at hstep
          have HS := Lib.hid hstep
          clear hstep h34 h92
          go_wp2_with fail
          go_at_call 64; refine (HB.out.writeByte (92) (by simp; omega)).mono ?_; rintro e w' ⟨rfl, HB2⟩
          replace HB2 := Lib.hid HB2
          go_wp2_with fail
          go_at_call 64; refine (HB2.out.writeByte (c) (by simp; omega)).mono ?_; rintro e w' ⟨rfl, HB3⟩
          replace HB3 := Lib.hid HB3
          go_wp2_with fail
          go_roundw
          case rel => exact ⟨k + 1, by omega, by go_num, by rw [HS.out]; simpa [bs] using HB3⟩
          case measure => simp [intOf]; omega
        · have hy : ((c.toNat : Int) == 92) = false := u8_ne (b := 92) h92
          by_cases h10 : c = 10
          · have hz : ((c.toNat : Int) == 10) = true := u8_is (b := 10) h10
            rw [show qt1 c = [92, 110] by rw [qt1, if_neg (by simp [h34, h92]), if_pos h10]] at hstep
            have HS := Lib.hid hstep
            clear hstep h34 h92 h10
            go_wp2_with fail
            go_at_call 34; refine (HB.out.writeString (⟨#[92, 110]⟩) (by simp [show (ByteArray.mk #[92, 110]).size = 2 from rfl]; omega)).mono ?_; rintro e w' ⟨rfl, HB3⟩
            replace HB3 := Lib.hid HB3
            go_wp2_with fail
            go_roundw
            case rel => exact ⟨k + 1, by omega, by go_num, by rw [HS.out]; simpa [bs] using HB3⟩
            case measure => simp [intOf]; omega
          · have hz : ((c.toNat : Int) == 10) = false := u8_ne (b := 10) h10
            by_cases hr : 32 ≤ c ∧ c ≤ 126
            · have r1 : (32 : Int) ≤ (c.toNat : Int) := u8_le hr.1
              have r2 : (c.toNat : Int) ≤ 126 := u8_le hr.2
              rw [show qt1 c = [c] by rw [qt1, if_neg (by simp [h34, h92]), if_neg h10, if_pos hr]] at hstep
              have HS := Lib.hid hstep
              clear hstep h34 h92 h10 hr
              go_wp2_with fail
              go_at_call 64; refine (HB.out.writeByte (c) (by simp; omega)).mono ?_; rintro e w' ⟨rfl, HB3⟩
              replace HB3 := Lib.hid HB3
              go_wp2_with fail
              go_roundw
              case rel => exact ⟨k + 1, by omega, by go_num, by rw [HS.out]; simpa [bs] using HB3⟩
              case measure => simp [intOf]; omega
            · rw [show qt1 c = [92, 120, hxd (c.toNat / 16), hxd (c.toNat % 16)] by rw [qt1, if_neg (by simp [h34, h92]), if_neg h10, if_neg hr]] at hstep
              have hb := c.toNat_lt
              have hd : ((c.toNat : Int)).tdiv 16 = ((c.toNat / 16 : Nat) : Int) := by rw [Int.tdiv_eq_ediv_of_nonneg (by omega)]; omega
              have hm : ((c.toNat : Int)).tmod 16 = ((c.toNat % 16 : Nat) : Int) := by rw [Int.tmod_eq_emod_of_nonneg (by omega)]; omega
              have hd1 : c.toNat / 16 < 16 := by omega
              have hm1 : c.toNat % 16 < 16 := by omega
              obtain ⟨a, ha⟩ : ∃ a, a = c.toNat / 16 := ⟨_, rfl⟩
              obtain ⟨b, hb2⟩ : ∃ b, b = c.toNat % 16 := ⟨_, rfl⟩
              rw [← ha] at hd hd1 hstep
              rw [← hb2] at hm hm1 hstep
              have ga := hxd_get a hd1
              have gb := hxd_get b hm1
              have HS := Lib.hid hstep
              clear hstep h34 h92 h10 ha hb2
              by_cases hr1 : 32 ≤ c
              · have r1 : (32 : Int) ≤ (c.toNat : Int) := u8_le hr1
                have r2 : (126 : Int) < (c.toNat : Int) := u8_lt (a := c) (b := 126) (by intro h; exact hr ⟨hr1, h⟩)
                clear hr hr1
                go_wp2_with fail
                go_at_call 34; refine (HB.out.writeString (⟨#[92, 120]⟩) (by simp [show (ByteArray.mk #[92, 120]).size = 2 from rfl]; omega)).mono ?_; rintro e w' ⟨rfl, HB2⟩
                replace HB2 := Lib.hid HB2
                go_wp2_with fail
                go_at_call 64; refine (HB2.out.writeByte (hxd a) (by simp [bs]; omega)).mono ?_; rintro e w' ⟨rfl, HB3⟩
                replace HB3 := Lib.hid HB3
                go_wp2_with fail
                go_at_call 64; refine (HB3.out.writeByte (hxd b) (by simp [bs]; omega)).mono ?_; rintro e w' ⟨rfl, HB4⟩
                replace HB4 := Lib.hid HB4
                go_wp2_with fail
                go_roundw
                case rel => exact ⟨k + 1, by omega, by go_num, by rw [HS.out]; simpa [bs] using HB4⟩
                case measure => simp [intOf]; omega
              · have r1 : (c.toNat : Int) < 32 := u8_lt hr1
                clear hr hr1
                go_wp2_with fail
                go_at_call 34; refine (HB.out.writeString (⟨#[92, 120]⟩) (by simp [show (ByteArray.mk #[92, 120]).size = 2 from rfl]; omega)).mono ?_; rintro e w' ⟨rfl, HB2⟩
                replace HB2 := Lib.hid HB2
                go_wp2_with fail
                go_at_call 64; refine (HB2.out.writeByte (hxd a) (by simp [bs]; omega)).mono ?_; rintro e w' ⟨rfl, HB3⟩
                replace HB3 := Lib.hid HB3
                go_wp2_with fail
                go_at_call 64; refine (HB3.out.writeByte (hxd b) (by simp [bs]; omega)).mono ?_; rintro e w' ⟨rfl, HB4⟩
                replace HB4 := Lib.hid HB4
                go_wp2_with fail
                go_roundw
                case rel => exact ⟨k + 1, by omega, by go_num, by rw [HS.out]; simpa [bs] using HB4⟩
                case measure => simp [intOf]; omega
    · obtain rfl : k = s.size := by omega
      rw [show (bs s).take s.size = bs s by rw [← bs_len, List.take_length]] at HB
      have hlen : (34 :: qb (bs s)).length ≤ 4 * s.size + 1 := by
        have := qb_len (bs s)
        rw [bs_len] at this; rw [List.length_cons]; omega
      obtain ⟨l, hl⟩ : ∃ l, l = 34 :: qb (bs s) := ⟨_, rfl⟩
      have HQ : Hid (quote (bs s) = l ++ [34]) := Lib.hid (by rw [hl]; rfl)
      rw [← hl] at HB hlen
      clear hl
      go_wp2_with fail
      go_at_call 64; refine (HB.out.writeByte (34) (by simp; omega)).mono ?_; rintro e w' ⟨rfl, HB2⟩
      replace HB2 := Lib.hid HB2
      go_wp2_with fail
      go_at_call 37; refine HB2.out.string.mono ?_; rintro e w2 ⟨rfl, HB3⟩
      replace HB3 := Lib.hid HB3
      go_wp2_with fail
      go_ret
      exact ⟨by rw [HQ.out]; rfl, HB3.out.below⟩
end Go.Proofs.YtnccndfffmaonaaGreatDoor
/- small of taquinlaw02. -/
namespace Go.Proofs.YtnccndfffmaonaaGreatDoor
set_option linter.unusedSimpArgs false
open Go.RowKit

theorem int_m0 : intOfB [45, 48] = none := by decide +kernel
theorem int_007 : intOfB [48, 48, 55] = none := by decide +kernel
theorem int_min : intOfB [45, 57, 50, 50, 51, 51, 55, 50, 48, 51, 54, 56, 53, 52, 55, 55, 53, 56, 48, 56] = some (-9223372036854775808) := by decide +kernel
theorem lines_s : lines [97, 10, 10, 98] = [[97], [], [98]] := by decide +kernel
theorem fields_s : fieldsB ⟨#[32, 97, 32, 32, 98, 10]⟩ = [[97], [98]] := by decide +kernel
theorem quote_s : quote [97, 34, 10, 200] = [34, 97, 92, 34, 92, 110, 92, 120, 99, 56, 34] := by decide +kernel
theorem pat_1 : Pat.pat [97, 42, 91, 33, 120, 45, 122, 93, 63] [97, 98, 99, 100] = true := by decide +kernel
theorem pat_2 : Pat.pat [91, 93, 93] [93] = true := by decide +kernel
theorem pat_3 : Pat.pat [91, 97] [91, 97] = true := by decide +kernel
theorem pat_4 : Pat.pat [92, 42] [42] = true := by decide +kernel
theorem pat_5 : Pat.pat [92, 42] [97, 98] = false := by decide +kernel

theorem bs_lit (l : List UInt8) : bs ⟨l.toArray⟩ = l := by simp [bs]
theorem small_i0 (w : World) (hE : Env w) : Calls Tryz.prog 95 #[.string ⟨#[45, 48]⟩] w fun e w' => e = .returned (.tuple #[.int .i64 0, .bool false]) ∧ Below w.heap.size w w' := by
  have h := Int_any ⟨#[45, 48]⟩ w hE (by decide)
  rw [show bs ⟨#[45, 48]⟩ = [45, 48] from rfl, int_m0] at h; exact h
theorem small_i1 (w : World) (hE : Env w) : Calls Tryz.prog 95 #[.string ⟨#[48, 48, 55]⟩] w fun e w' => e = .returned (.tuple #[.int .i64 0, .bool false]) ∧ Below w.heap.size w w' := by
  have h := Int_any ⟨#[48, 48, 55]⟩ w hE (by decide)
  rw [show bs ⟨#[48, 48, 55]⟩ = [48, 48, 55] from rfl, int_007] at h; exact h
theorem small_i2 (w : World) (hE : Env w) : Calls Tryz.prog 95 #[.string ⟨#[45, 57, 50, 50, 51, 51, 55, 50, 48, 51, 54, 56, 53, 52, 55, 55, 53, 56, 48, 56]⟩] w fun e w' => e = .returned (.tuple #[.int .i64 (-9223372036854775808), .bool true]) ∧ Below w.heap.size w w' := by
  have h := Int_any ⟨#[45, 57, 50, 50, 51, 51, 55, 50, 48, 51, 54, 56, 53, 52, 55, 55, 53, 56, 48, 56]⟩ w hE (by decide)
  rw [show bs ⟨#[45, 57, 50, 50, 51, 51, 55, 50, 48, 51, 54, 56, 53, 52, 55, 55, 53, 56, 48, 56]⟩ = [45, 57, 50, 50, 51, 51, 55, 50, 48, 51, 54, 56, 53, 52, 55, 55, 53, 56, 48, 56] from rfl, int_min] at h; exact h
theorem small_q (w : World) : Calls Tryz.prog 35 #[.string ⟨#[97, 34, 10, 200]⟩] w fun e w' => e = .returned (.string ⟨#[34, 97, 92, 34, 92, 110, 92, 120, 99, 56, 34]⟩) ∧ Below w.heap.size w w' := by
  have h := Quote_any ⟨#[97, 34, 10, 200]⟩ w (by decide)
  rw [show bs ⟨#[97, 34, 10, 200]⟩ = [97, 34, 10, 200] from rfl, quote_s] at h; exact h
end Go.Proofs.YtnccndfffmaonaaGreatDoor
/- Walks of package text: Unquote. -/
namespace Go.Proofs.YtnccndfffmaonaaGreatDoor
set_option linter.unusedSimpArgs false
open Go.RowKit

theorem wb_below {T e : TypeId} {B b : Nat} {p : Value} {l : List Value} {W W' : World} (h : Lib.BuilderAtF T e B b p l W) (hb : Below W.heap.size W W') : Lib.BuilderAtF T e B b p l W' := by
  have hlt := h.lt
  obtain ⟨hB, v, hv, hown, hne⟩ := h
  exact ⟨hB, v, (hb.block b hlt).trans hv, hown.kept (row := none) ⟨hb.os, hb.tape, hb.output, hb.size, fun k hk _ => hb.block k hk⟩ (Classical.em _), hne⟩
theorem Bw.keep {w0 : World} {l : List UInt8} {w w' : World} (h : Bw w0 l w) (hb : Below w.heap.size w w') : Bw w0 l w' :=
  ⟨h.1.elim (fun x => .inl (wb_below x hb)) (fun x => .inr (wb_below x hb)), h.2.trans (hb.mono h.2.size)⟩
theorem Bw.drew {w0 : World} {l : List UInt8} {w : World} (h : Bw w0 l w) : Bw w0 l w.drew := h.drewN 1
theorem ub_walk (a b : UInt8) : bits BinOp.or IntKind.i64 (wrap64 (Lib.indexByte [48, 49, 50, 51, 52, 53, 54, 55, 56, 57, 97, 98, 99, 100, 101, 102] a * 16)) (Lib.indexByte [48, 49, 50, 51, 52, 53, 54, 55, 56, 57, 97, 98, 99, 100, 101, 102] b) % 256 = ((ub a b).toNat : Int) := by
  rw [← ubI_eq, ubI]
  have h : ∀ z : Int, IntKind.u8.wrap z = z % 256 := by
    intro z; simp [IntKind.wrap, IntKind.bits, IntKind.signed]
  rw [h, IntWalk.i64_left]
theorem bs_lit0 (l : List UInt8) : bs ⟨l.toArray⟩ = l := by simp [bs]
theorem Quote_l (l : List UInt8) (w : World) (hs : l.length ≤ 1073741824) :
    Calls Tryz.prog 35 #[.string ⟨l.toArray⟩] w fun e w' => e = .returned (.string ⟨(quote l).toArray⟩) ∧ Below w.heap.size w w' := by
  have h := Quote_any ⟨l.toArray⟩ w (by rw [← bs_len, bs_lit0]; exact hs)
  rw [bs_lit0] at h; exact h
/-- The inside. -/
def inside (s : ByteArray) (k : Nat) : List UInt8 := ((bs s).take (s.size - 1)).drop k
theorem inside_cons (s : ByteArray) (k : Nat) (h : k + 1 < s.size) : inside s k = s[k] :: inside s (k + 1) := by
  unfold inside
  have h1 : k < ((bs s).take (s.size - 1)).length := by rw [List.length_take, bs_len]; omega
  rw [List.drop_eq_getElem_cons h1, List.getElem_take]; rfl
theorem inside_nil (s : ByteArray) (k : Nat) (h : ¬ k + 1 < s.size) : inside s k = [] := by
  unfold inside
  exact List.drop_eq_nil_of_le (by rw [List.length_take, bs_len]; omega)

theorem inside_len (s : ByteArray) (k : Nat) : (inside s k).length = s.size - 1 - k := by
  unfold inside; rw [List.length_drop, List.length_take, bs_len]; omega

set_option maxRecDepth 100000 in
set_option maxHeartbeats 8000000 in
theorem Unquote_any (s : ByteArray) (w : World) (hs : s.size ≤ 268435456) :
    Calls Tryz.prog 96 #[.string s] w fun e w' => e = .returned (.tuple #[.string (if quote (raw (inside s 1)) = bs s then ⟨(raw (inside s 1)).toArray⟩ else ⟨#[]⟩), .bool (decide (quote (raw (inside s 1)) = bs s))]) ∧ Below w.heap.size w w' := by
  have H0 := Lib.hid (Bw.start w)
  obtain ⟨G, hG⟩ : ∃ G, raw (inside s 1) = G := ⟨_, rfl⟩
  have HG := Lib.hid hG
  rw [hG]
  clear hG
  go_enter Tryz.func96, Tryz.ntmps96
  go_wp2_with fail
  go_loopw [5] (fun iv wr => ∃ (k : Nat) (l : List UInt8), 1 ≤ k ∧ k ≤ s.size + 1 ∧ l.length ≤ k ∧ iv = .int .i64 k ∧ Hid (Bw w l wr) ∧ Hid (G = l ++ raw (inside s k))) (fun iv _ => s.size + 1 - (intOf iv).toNat)
  case atStart => exact ⟨1, [], by omega, by omega, by simp, rfl, H0, Lib.hid (by rw [HG.out]; rfl)⟩
  case round =>
    obtain ⟨k, l, hk1, hk, hl, rfl, HB, HN⟩ := hrel
    clear H0 HG
    by_cases hlt : k + 1 < s.size
    · have hlt0 : (k : Int) < (s.size : Int) - 1 := by omega
      by_cases h92 : s[k] = 92
      · have hx : ((s[k].toNat : Int) == 92) = true := u8_is (b := 92) h92
        have hxx : ((s[k].toNat : Int) != 92) = false := by rw [bne, hx]; rfl
        by_cases h2 : k + 2 < s.size
        · have hge : (k : Int) + 1 < (s.size : Int) - 1 := by omega
          by_cases h110 : s[k + 1] = 110
          · have hy : ((s[k + 1].toNat : Int) == 110) = true := u8_is (b := 110) h110
            have HG2 : Hid (G = (l ++ [10]) ++ raw (inside s (k + 2))) := Lib.hid (by rw [HN.out, inside_cons s k hlt, inside_cons s (k + 1) h2, h92, h110, raw_n, List.append_assoc]; rfl)
            clear HN h92 h110
            go_wp2_with fail
            go_at_call 64; refine (HB.out.writeByte (10) (by simp; omega)).mono ?_; rintro e w' ⟨rfl, HB2⟩
            replace HB2 := Lib.hid HB2
            go_wp2_with fail
            go_roundw
            case rel => exact ⟨k + 2, l ++ [10], by omega, by omega, by simp; omega, by go_num, HB2, HG2⟩
            case measure => simp [intOf]; omega
          · have hy : ((s[k + 1].toNat : Int) == 110) = false := u8_ne (b := 110) h110
            by_cases h120 : s[k + 1] = 120
            · have hz : ((s[k + 1].toNat : Int) == 120) = true := u8_is (b := 120) h120
              by_cases h3 : k + 4 < s.size
              · have hw1 : IntKind.i64.wrap (((k : Int) + 1) + 1) = (k : Int) + 2 := by rw [IntWalk.i64_in _ (by omega)]; omega
                have hw2 : IntKind.i64.wrap (((k : Int) + 1) + 2) = (k : Int) + 3 := by rw [IntWalk.i64_in _ (by omega)]; omega
                have hn1 : (0 : Int) ≤ (k : Int) + 2 := by omega
                have hn2 : (0 : Int) ≤ (k : Int) + 3 := by omega
                have hn3 : (k : Int) + 2 < (s.size : Int) := by omega
                have hn4 : (k : Int) + 3 < (s.size : Int) := by omega
                have ht1 : ((k : Int) + 2).toNat = k + 2 := by omega
                have ht2 : ((k : Int) + 3).toNat = k + 3 := by omega
                have HG2 : Hid (G = (l ++ [ub s[k + 2] s[k + 3]]) ++ raw (inside s (k + 4))) := Lib.hid (by rw [HN.out, inside_cons s k hlt, inside_cons s (k + 1) h2, inside_cons s (k + 2) (by omega), inside_cons s (k + 3) (by omega), h92, h120, raw_x, List.append_assoc]; rfl)
                clear HN h92 h110 h120
                go_wp2_with fail
                refine wp_region_still_tail 13 (by kernel_rfl) (by kernel_rfl) ?_
                simp only [List.take_succ_cons, List.take_zero, List.drop_succ_cons, List.drop_zero]
                repeat still_step
                still_call (Tryz.strings_IndexByte _ _ _)
                repeat still_step
                still_call (Tryz.strings_IndexByte _ _ _)
                repeat still_step
                try refine wpStill_nil ?_
                change wpList _ _ _ _ _ wr.drew
                go_wp2_with fail
                rw [ub_walk]
                refine (HB.out.drew.writeByte (ub s[k + 2] s[k + 3]) (by simp; omega)).mono ?_; rintro e w' ⟨rfl, HB2⟩
                replace HB2 := Lib.hid HB2
                go_wp2_with fail
                go_roundw
                case rel => exact ⟨k + 4, l ++ [ub s[k + 2] s[k + 3]], by omega, by omega, by simp; omega, by go_num, HB2, HG2⟩
                case measure => simp [intOf]; omega
              · have HG2 : Hid (G = (l ++ [s[k + 1]]) ++ raw (inside s (k + 2))) := Lib.hid (by rw [HN.out, inside_cons s k hlt, inside_cons s (k + 1) h2, h92, raw_c _ _ h110 (.inr (by rw [inside_len]; omega)), List.append_assoc]; rfl)
                clear HN h92 h110 h120
                go_wp2_with fail
                go_at_call 64; refine (HB.out.writeByte (s[k + 1]) (by simp; omega)).mono ?_; rintro e w' ⟨rfl, HB2⟩
                replace HB2 := Lib.hid HB2
                go_wp2_with fail
                go_roundw
                case rel => exact ⟨k + 2, l ++ [s[k + 1]], by omega, by omega, by simp; omega, by go_num, HB2, HG2⟩
                case measure => simp [intOf]; omega
            · have hz : ((s[k + 1].toNat : Int) == 120) = false := u8_ne (b := 120) h120
              have HG2 : Hid (G = (l ++ [s[k + 1]]) ++ raw (inside s (k + 2))) := Lib.hid (by rw [HN.out, inside_cons s k hlt, inside_cons s (k + 1) h2, h92, raw_c _ _ h110 (.inl h120), List.append_assoc]; rfl)
              clear HN h92 h110 h120
              go_wp2_with fail
              go_at_call 64; refine (HB.out.writeByte (s[k + 1]) (by simp; omega)).mono ?_; rintro e w' ⟨rfl, HB2⟩
              replace HB2 := Lib.hid HB2
              go_wp2_with fail
              go_roundw
              case rel => exact ⟨k + 2, l ++ [s[k + 1]], by omega, by omega, by simp; omega, by go_num, HB2, HG2⟩
              case measure => simp [intOf]; omega
        · have HG2 : Hid (G = (l ++ [s[k]]) ++ raw (inside s (k + 1))) := Lib.hid (by rw [HN.out, inside_cons s k hlt, raw_a _ _ (.inr (inside_nil s (k + 1) h2)), List.append_assoc]; rfl)
          clear HN h92
          go_wp2_with fail
          go_at_call 64; refine (HB.out.writeByte (s[k]) (by simp; omega)).mono ?_; rintro e w' ⟨rfl, HB2⟩
          replace HB2 := Lib.hid HB2
          go_wp2_with fail
          go_roundw
          case rel => exact ⟨k + 1, l ++ [s[k]], by omega, by omega, by simp; omega, by go_num, HB2, HG2⟩
          case measure => simp [intOf]; omega
      · have hx : ((s[k].toNat : Int) == 92) = false := u8_ne (b := 92) h92
        have hxx : ((s[k].toNat : Int) != 92) = true := by rw [bne, hx]; rfl
        have HG2 : Hid (G = (l ++ [s[k]]) ++ raw (inside s (k + 1))) := Lib.hid (by rw [HN.out, inside_cons s k hlt, raw_a _ _ (.inl h92), List.append_assoc]; rfl)
        clear HN h92
        go_wp2_with fail
        go_at_call 64; refine (HB.out.writeByte (s[k]) (by simp; omega)).mono ?_; rintro e w' ⟨rfl, HB2⟩
        replace HB2 := Lib.hid HB2
        go_wp2_with fail
        go_roundw
        case rel => exact ⟨k + 1, l ++ [s[k]], by omega, by omega, by simp; omega, by go_num, HB2, HG2⟩
        case measure => simp [intOf]; omega
    · have hg : G = l := by rw [HN.out, inside_nil s k hlt, raw, List.append_nil]
      subst hg
      have hge : (s.size : Int) - 1 ≤ (k : Int) := by omega
      have hql : G.length ≤ 268435457 := by omega
      clear HN
      by_cases hq : quote G = bs s
      · have hqq : (quote G == s.toList) = true := by rw [toList_bs, hq]; exact beq_self_eq_true _
        have hqn : (quote G != s.toList) = false := by rw [bne, hqq]; rfl
        have HQ := Lib.hid hq
        clear hq
        go_wp2_with fail
        go_at_call 37; refine HB.out.string.mono ?_; rintro e w2 ⟨rfl, HB2⟩
        replace HB2 := Lib.hid HB2
        go_wp2_with fail
        go_at_call 35; refine (Quote_l G _ (by omega)).mono ?_; rintro e w3 ⟨rfl, b⟩
        have HB3 := Lib.hid (HB2.out.keep b)
        clear b
        go_wp2_with fail
        go_at_call 37; refine HB3.out.string.mono ?_; rintro e w2 ⟨rfl, HB4⟩
        replace HB4 := Lib.hid HB4
        go_wp2_with fail
        go_ret2
        exact ⟨rfl, HB4.out.below⟩
      · have hqq : (quote G == s.toList) = false := by rw [toList_bs]; exact beq_eq_false_iff_ne.2 hq
        have hqn : (quote G != s.toList) = true := by rw [bne, hqq]; rfl
        have HQ := Lib.hid hq
        clear hq
        go_wp2_with fail
        go_at_call 37; refine HB.out.string.mono ?_; rintro e w2 ⟨rfl, HB2⟩
        replace HB2 := Lib.hid HB2
        go_wp2_with fail
        go_at_call 35; refine (Quote_l G _ (by omega)).mono ?_; rintro e w3 ⟨rfl, b⟩
        have HB3 := Lib.hid (HB2.out.keep b)
        clear b
        go_wp2_with fail
        go_ret2
        exact ⟨rfl, HB3.out.below⟩
end Go.Proofs.YtnccndfffmaonaaGreatDoor
/- TextBack. -/
namespace Go.Proofs.YtnccndfffmaonaaGreatDoor
set_option linter.unusedSimpArgs false
open Go.RowKit

theorem bs_inj' {a b : ByteArray} (h : bs a = bs b) : a = b := by
  rw [← mk_data a, ← mk_data b]; exact congrArg (fun l : List UInt8 => (⟨l.toArray⟩ : ByteArray)) h
theorem Decimal_is (v : Int) (s : ByteArray) (h : Lib.itoa v = bs s) (h0 : -9223372036854775808 ≤ v) (h1 : v ≤ 9223372036854775807) (w : World) (hE : Env w) :
    Calls Tryz.prog 65 #[.int .i64 v] w fun e w' => e = .returned (.string s) ∧ Below w.heap.size w w' := by
  refine (Decimal_any v h0 h1 w hE).mono ?_
  rintro e w' ⟨rfl, hb⟩
  exact ⟨by rw [bs_inj' (bs_lit0 (Lib.itoa v) |>.trans h)], hb⟩
theorem Int_some (s : ByteArray) (v : Int) (h : intOfB (bs s) = some v) (w : World) (hE : Env w) (hs : s.size ≤ 1073741824) :
    Calls Tryz.prog 95 #[.string s] w fun e w' => e = .returned (.tuple #[.int .i64 v, .bool true]) ∧ Below w.heap.size w w' := by
  have := Int_any s w hE hs
  rw [h] at this; exact this
theorem Int_none (s : ByteArray) (h : intOfB (bs s) = none) (w : World) (hE : Env w) (hs : s.size ≤ 1073741824) :
    Calls Tryz.prog 95 #[.string s] w fun e w' => e = .returned (.tuple #[.int .i64 0, .bool false]) ∧ Below w.heap.size w w' := by
  have := Int_any s w hE hs
  rw [h] at this; exact this
theorem Quote_is (l : List UInt8) (s : ByteArray) (h : quote l = bs s) (hl : l.length ≤ 1073741824) (w : World) :
    Calls Tryz.prog 35 #[.string ⟨l.toArray⟩] w fun e w' => e = .returned (.string s) ∧ Below w.heap.size w w' := by
  refine (Quote_l l w hl).mono ?_
  rintro e w' ⟨rfl, hb⟩
  exact ⟨by rw [bs_inj' (bs_lit0 (quote l) |>.trans h)], hb⟩
theorem Quote_k (s : ByteArray) (w : World) (hs : s.size ≤ 1073741824) :
    Calls Tryz.prog 35 #[.string s] w fun e w' => ∃ E, bs E = quote (bs s) ∧ E.size ≤ 4 * s.size + 2 ∧ e = .returned (.string E) ∧ Below w.heap.size w w' := by
  refine (Quote_any s w hs).mono ?_
  rintro e w' ⟨rfl, hb⟩
  refine ⟨_, by rw [bs_lit0], ?_, rfl, hb⟩
  have := qb_len (bs s)
  rw [← bs_len, bs_lit0, quote]; rw [bs_len] at this
  simp only [List.length_cons, List.length_append, List.length_nil]; omega
theorem inside_quote (E : ByteArray) (l : List UInt8) (h : bs E = quote l) : inside E 1 = qb l := by
  have hs : E.size - 1 = (qb l).length + 1 := by rw [← bs_len, h, quote]; simp
  rw [inside, hs, h, quote]
  simp
theorem Unquote_is (E s : ByteArray) (h : bs E = quote (bs s)) (hs : E.size ≤ 268435456) (w : World) :
    Calls Tryz.prog 96 #[.string E] w fun e w' => e = .returned (.tuple #[.string s, .bool true]) ∧ Below w.heap.size w w' := by
  have := Unquote_any E w hs
  rw [inside_quote E _ h, raw_qb, ← h, if_pos rfl, decide_eq_true rfl, show (⟨(bs s).toArray⟩ : ByteArray) = s from mk_data s] at this
  exact this
/-- What a string is unquoted to. -/
def unq (l : List UInt8) : List UInt8 := raw ((l.take (l.length - 1)).drop 1)
theorem unq_eq (s : ByteArray) : raw (inside s 1) = unq (bs s) := by rw [unq, inside, bs_len]
theorem raw_len : ∀ (f : Nat) (l : List UInt8), l.length ≤ f → (raw l).length ≤ l.length := by
  intro f
  induction f with
  | zero =>
    intro l hl
    obtain rfl : l = [] := List.eq_nil_of_length_eq_zero (by omega)
    simp [raw]
  | succ f ih =>
    intro l hl
    unfold raw
    split
    · rename_i r; have := ih r (by simp at hl; omega); simp; omega
    · rename_i r; have := ih r (by simp at hl; omega); simp; omega
    · rename_i r _ _; have := ih r (by simp at hl; omega); simp; omega
    · rename_i r _ _ _; have := ih r (by simp at hl; omega); simp; omega
    · simp
theorem unq_len (l : List UInt8) : (unq l).length ≤ l.length := by
  refine Nat.le_trans (raw_len _ _ (Nat.le_refl _)) ?_
  rw [List.length_drop, List.length_take]; omega
theorem Unquote_yes (s : ByteArray) (h : quote (unq (bs s)) = bs s) (hs : s.size ≤ 268435456) (w : World) :
    Calls Tryz.prog 96 #[.string s] w fun e w' => e = .returned (.tuple #[.string ⟨(unq (bs s)).toArray⟩, .bool true]) ∧ Below w.heap.size w w' := by
  have := Unquote_any s w hs
  rw [unq_eq, if_pos h, decide_eq_true h] at this; exact this
theorem Unquote_no (s : ByteArray) (h : ¬ quote (unq (bs s)) = bs s) (hs : s.size ≤ 268435456) (w : World) :
    Calls Tryz.prog 96 #[.string s] w fun e w' => e = .returned (.tuple #[.string ⟨#[]⟩, .bool false]) ∧ Below w.heap.size w w' := by
  have := Unquote_any s w hs
  rw [unq_eq, if_neg h, decide_eq_false h] at this; exact this

end Go.Proofs.YtnccndfffmaonaaGreatDoor
