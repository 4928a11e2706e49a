/- Parts Bld, Wr0, Wr1, RdA, RdB of this claim, laid one behind the other: walks and the plain laws behind them; each contract states its own conditions. -/
import Derived.Test.YtfcbcpfnaadpeaaGreatDoorRows
import Derived.Shelf.Strings.BuilderK
import Derived.WalkKit
import Derived.WalkSpells
import Derived.WalkLawsBesides
import Derived.Test.YtfcbcpfnaadpeaaGreatDoorBW
import Derived.Test.YtfcbcpfnaadpeaaGreatDoorBB
import Derived.Test.YtfcbcpfnaadpeaaGreatDoorBA
import Derived.WalkSmall
import Derived.ChangeBears2
import Derived.Lib.SmallJoins
import Derived.Lib.IndexBytes
/- (*strings.Builder).copyCheck, WriteByte, WriteString over this seat's translation: the shelf's own contracts of these three do not lie down here (their copyCheck's panic is refused by the loader); the walks follow the shelf's. -/
namespace Go.Proofs.YtfcbcpfnaadpeaaGreatDoor
open Go.RowKit

theorem Tryz.bldSize : (Tryz.prog.info? 136).map (·.size) = some 2 := by kernel_rfl
theorem Tryz.bldByte : (Tryz.prog.info? 5).map (fun i => (i.zero, i.size, i.bytes)) = some (some (.int .u8 0), 1, 1) := by kernel_rfl

set_option maxHeartbeats 1000000 in
set_option maxRecDepth 100000 in
theorem copyCheck_used (b : Nat) (w : World) (h0 : w.cell? ⟨b, 0, none⟩ = some (.pointer (some ⟨b, 0, none⟩))) :
    Calls Tryz.prog 162 #[.pointer (some ⟨b, 0, none⟩)] w fun e w' => e = .returned (.tuple #[]) ∧ w' = w := by
  obtain ⟨j, hj, _⟩ := Option.map_eq_some_iff.1 Tryz.bldSize
  go_enter Tryz.func162, Tryz.ntmps162
  go_wp2
  rw [Lib.run_neq_ptr_same w _ Tryz.underlying133 hj]
  go_wp2
  go_end0
  exact ⟨rfl, rfl⟩

set_option maxHeartbeats 1000000 in
set_option maxRecDepth 100000 in
theorem copyCheck_fresh (b : Nat) (w : World) (h0 : w.cell? ⟨b, 0, none⟩ = some (.pointer none)) (hsh : w.shape? b = some (136, 2)) (hfz : w.frozen? ⟨b, 0, none⟩ = false) :
    Calls Tryz.prog 162 #[.pointer (some ⟨b, 0, none⟩)] w fun e w' => e = .returned (.tuple #[]) ∧ w' = w.setCell ⟨b, 0, none⟩ (.pointer (some ⟨b, 0, none⟩)) := by
  obtain ⟨j, hj, hjs⟩ := Option.map_eq_some_iff.1 Tryz.bldSize
  go_enter Tryz.func162, Tryz.ntmps162
  go_wp2
  rw [Lib.run_to_unsafe w ⟨b, 0, none⟩ Tryz.underlying133 Tryz.underlying251 hj (by rw [hjs]; decide) hsh (Nat.zero_lt_succ 1)]
  simp only [Result.andThen]
  rw [Oper.upon_value]
  go_wp2
  rw [run_callFunc_extern Tryz.func228 (by kernel_rfl) (by kernel_rfl) (by kernel_rfl) (e := Extern.AbiNoEscape.same) (by kernel_rfl)]
  rw [Lib.run_noEscape]
  simp only [Result.andThen]
  rw [Oper.upon_value]
  go_wp2
  rw [Lib.run_from_unsafe w ⟨b, 0, none⟩ Tryz.underlying251 Tryz.underlying133 hj hsh (by kernel_rfl)]
  simp only [Result.andThen]
  rw [Oper.upon_value]
  go_wp2
  go_end0
  exact ⟨rfl, rfl⟩

/-- Behind copyCheck the builder holds its own address; every block that is not the builder's and no row of bytes stands as it stood. -/
theorem copyCheck_any (B b : Nat) (l : List Value) (w : World) (h : Lib.IsBuilderF 136 5 B b l w) :
    Calls Tryz.prog 162 #[.pointer (some ⟨b, 0, none⟩)] w fun e w' => e = .returned (.tuple #[]) ∧ (Lib.BuilderAtF 136 5 B b (.pointer (some ⟨b, 0, none⟩)) l w' ∧ Below B w w' ∧ Lib.OthersKept 5 (some b) w w') := by
  rcases h with h | h
  · refine (copyCheck_fresh b w h.cell0 h.shape h.frozen0).mono ?_
    rintro e w' ⟨rfl, rfl⟩
    exact ⟨rfl, h.used _, (Below.refl B w).setCell (p := ⟨b, 0, none⟩) h.1 _, (Lib.OthersKept.refl _ _ w).setCell ⟨b, 0, none⟩ rfl _⟩
  · refine (copyCheck_used b w h.cell0).mono ?_
    rintro e w' ⟨rfl, rfl⟩
    exact ⟨rfl, h, Below.refl B _, Lib.OthersKept.refl _ _ _⟩

set_option maxHeartbeats 2000000 in
set_option maxRecDepth 100000 in
theorem WriteString_any (B b : Nat) (l : List Value) (s : ByteArray) (w : World) (h : Lib.IsBuilderF 136 5 B b l w) (hlen : l.length + s.size ≤ 140737488355328) (hBw : B ≤ w.heap.size) :
    Calls Tryz.prog 90 #[.pointer (some ⟨b, 0, none⟩), .string s] w fun e w' => e = .returned (.tuple #[.int .i64 s.size, .nilIface]) ∧ (Lib.IsBuilderF 136 5 B b (l ++ Lib.strCells s) w' ∧ Below B w w' ∧ Lib.OthersKept 5 (some b) w w') := by
  obtain ⟨i0, hi, hz0, hz1, hz2⟩ := info_parts Tryz.bldByte
  go_enter Tryz.func90, Tryz.ntmps90
  go_wp2_with (go_at_call 162; refine (copyCheck_any B b l _ h).mono ?_)
  rintro e w1 ⟨rfl, h1, hb1, hk1⟩
  obtain ⟨hB, v, hbk, hown, hne⟩ := h1
  have c0 : w1.cell? ⟨b, 0, none⟩ = some (.pointer (some ⟨b, 0, none⟩)) := by rw [Lib.cell_of_heap hbk]; rfl
  have c1 : w1.cell? ⟨b, 1, none⟩ = some v := by rw [Lib.cell_of_heap hbk]; rfl
  go_wp2_with (at_builtin; refine Lib.wpList_append_own_stringF _ rfl _ _ 134 9 rfl B 5 i0 Tryz.underlying134 Tryz.underlying9 hi hz0 hz1 hz2 _ _ _ rfl hown s rfl ?c3 ?c4 ?c5 ?_)
  case c3 => unfold maxLen; omega
  case c4 => omega
  case c5 => have := hb1.size; omega
  intro v' w2 hown' hgrow _
  have hlt : b < w1.heap.size := by
    rcases Nat.lt_or_ge b w1.heap.size with h' | h'
    · exact h'
    · simp [Array.getElem?_eq_none h'] at hbk
  have hb2 : w2.heap[b]? = some (.cells #[.pointer (some ⟨b, 0, none⟩), v] 136 (0, 0)) := by
    rw [hgrow.block b hlt (fun e => hne e.symm)]
    exact hbk
  have d0 : w2.cell? ⟨b, 0, none⟩ = some (.pointer (some ⟨b, 0, none⟩)) := by rw [Lib.cell_of_heap hb2]; rfl
  have d1 : w2.cell? ⟨b, 1, none⟩ = some v := by rw [Lib.cell_of_heap hb2]; rfl
  have f1 : w2.frozen? ⟨b, 1, none⟩ = false := Lib.frozen_of_heap hb2 1
  obtain ⟨ao, n', cap, rfl⟩ : ∃ ao n' cap, v' = .slice ao n' cap := by
    rcases hown'.2 with ⟨hv, _⟩ | ⟨g, cap, cur, fz, hv, _⟩
    · exact ⟨_, _, _, hv⟩
    · exact ⟨_, _, _, hv⟩
  go_wp2
  go_ret2
  refine ⟨rfl, .inr ?_, ?_, (hk1.grown hgrow (Lib.ownsRowF_kind hown)).setCell ⟨b, 1, none⟩ rfl _⟩
  · exact Lib.BuilderAtF.put (T := 136) (e := 5) hB hb2 (bs' := l ++ Lib.strCells s) (by simpa [Lib.strCells_length] using hown') (by decide)
  · exact (hb1.grown hgrow (by have := hb1.size; omega) (fun k hk => (hown.lt k hk).1)).setCell (p := ⟨b, 1, none⟩) hB _
end Go.Proofs.YtfcbcpfnaadpeaaGreatDoor
/- Strings and builders for the walks of package wire. -/
namespace Go.Proofs.YtfcbcpfnaadpeaaGreatDoor
set_option linter.unusedSimpArgs false
set_option linter.unusedVariables false
open Go.RowKit

theorem Tryz.gPow : Tryz.prog.globalNamed "internal/strconv.uint64pow10" = some 4 := by kernel_rfl
/-- What strconv asks of the world: its table of powers. -/
def PowT (w : World) : Prop := Lib.TabIs Tryz.prog w "internal/strconv.uint64pow10" .u64 Lib.pow10Tab
theorem PowT.below {w w' : World} (h : PowT w) (hb : Below w.heap.size w w') : PowT w' := by
  have h0 : w.cell? ⟨4, 0, none⟩ = some (.int .u64 1) := by
    rw [World.var?_cell Tryz.gPow h 0]; rfl
  exact var?_below hb Tryz.gPow (cell_block_lt h0) h
/-- The bytes of a string. -/
def bs (s : ByteArray) : List UInt8 := s.data.toList
theorem bs_len (s : ByteArray) : (bs s).length = s.size := by simp [bs]
theorem bs_append (a b : ByteArray) : bs (a ++ b) = bs a ++ bs b := by simp [bs]
theorem bs_lit0 (l : List UInt8) : bs ⟨l.toArray⟩ = l := by simp [bs]
theorem bs_inj {a b : ByteArray} (h : bs a = bs b) : a = b := by
  cases a; cases b
  unfold bs at h
  congr 1
  exact Array.toList_inj.1 h
/-- What answers a string of known bytes. -/
def SP (l : List UInt8) (w : World) (e : Ending) (w' : World) : Prop := ∃ D : ByteArray, bs D = l ∧ D.size = l.length ∧ e = .returned (.string D) ∧ Below w.heap.size w w'
theorem below_grow (w : World) (os : Array Obj) : Below w.heap.size w (Go.Sort.grow w os) :=
  ⟨rfl, rfl, rfl, by simp [Go.Sort.grow], fun k hk => by simp [Go.Sort.grow, Array.getElem?_append_left hk]⟩
theorem Itoa_any (n : Int) (h : Wr.I64 n) (w : World) (hT : PowT w) : Calls Tryz.prog 163 #[.int .i64 n] w (SP (Lib.itoa n) w) := by
  refine (Tryz.strconv_Itoa n h.1 h.2 w hT).mono ?_
  rintro e w' ⟨rfl, k, os, rfl⟩
  exact ⟨_, bs_lit0 _, by rw [← bs_len, bs_lit0], rfl, (below_drewN _ _ _).trans (below_grow (w.drewN k) os)⟩
theorem builder_below {T e : TypeId} {B b : Nat} {p : Value} {l : List Value} {w w' : World} (h : Lib.BuilderAtF T e B b p l w) (hb : Below w.heap.size w w') : Lib.BuilderAtF T e B b p l w' := by
  obtain ⟨hB, v, hv, hown, hne⟩ := h
  exact ⟨hB, v, keep_heap hv hb, hown.kept (row := none) ⟨hb.os, hb.tape, hb.output, hb.size, fun k hk _ => hb.block k hk⟩ (Classical.em _), hne⟩
/-- A call's own builder: block B, laid first by the call; it holds the bytes l. -/
def Bw (w0 : World) (l : List UInt8) (w : World) : Prop := Lib.IsBuilderF 136 5 w0.heap.size w0.heap.size (Lib.byteCells l) w ∧ Below w0.heap.size w0 w
theorem Bw.start (w : World) : Bw w [] (w.alloc (.cells #[.pointer none, .slice none 0 0] 136)) :=
  ⟨Lib.IsBuilderF.of (Lib.fresh_isBuilder _ _ w), (Below.refl _ w).alloc (Nat.le_refl _) _⟩
theorem Bw.below {w0 : World} {l : List UInt8} {w : World} (h : Bw w0 l w) : Below w0.heap.size w0 w := h.2
theorem Bw.writeString {w0 : World} {l : List UInt8} {w : World} (h : Bw w0 l w) (s : ByteArray) (hl : l.length + s.size ≤ 140737488355328) :
    Calls Tryz.prog 90 #[.pointer (some ⟨w0.heap.size, 0, none⟩), .string s] w fun e w' => e = .returned (.tuple #[.int .i64 s.size, .nilIface]) ∧ Bw w0 (l ++ bs s) w' := by
  refine (WriteString_any w0.heap.size w0.heap.size (Lib.byteCells l) s w h.1 (by simpa [Lib.byteCells] using hl) h.2.size).mono ?_
  rintro e w' ⟨rfl, h1, h2, -⟩
  refine ⟨rfl, ?_, h.2.trans h2⟩
  have : Lib.byteCells (l ++ bs s) = Lib.byteCells l ++ Lib.strCells s := by rw [Lib.strCells_eq]; simp [Lib.byteCells, bs]
  rw [this]; exact h1
theorem Bw.string {w0 : World} {l : List UInt8} {w : World} (h : Bw w0 l w) :
    Calls Tryz.prog 96 #[.pointer (some ⟨w0.heap.size, 0, none⟩)] w fun e w' => ∃ D : ByteArray, bs D = l ∧ D.size = l.length ∧ e = .returned (.string D) ∧ Bw w0 l w' := by
  refine (Tryz.Builder_String_any_k w0.heap.size w0.heap.size l w h.1 h.2.size).mono ?_
  rintro e w' ⟨rfl, h1, h2, -⟩
  exact ⟨_, bs_lit0 _, by rw [← bs_len, bs_lit0], rfl, h1, h.2.trans h2⟩
/-- What a builder's block holds is not seen by a call that makes memory. -/
theorem Bw.grow {w0 : World} {l : List UInt8} {w w' : World} (h : Bw w0 l w) (hb : Below w.heap.size w w') : Bw w0 l w' := by
  refine ⟨?_, h.2.trans (hb.mono h.2.size)⟩
  rcases h.1 with h1 | h1
  · exact .inl (builder_below h1 hb)
  · exact .inr (builder_below h1 hb)
end Go.Proofs.YtfcbcpfnaadpeaaGreatDoor
/- Walks of package wire: Int, Num, Text, list, Nums. -/
namespace Go.Proofs.YtfcbcpfnaadpeaaGreatDoor
set_option linter.unusedSimpArgs false
set_option linter.unusedVariables false
open Go.RowKit

set_option maxRecDepth 100000 in
set_option maxHeartbeats 4000000 in
theorem wInt_any (n : Int) (h : Wr.I64 n) (w : World) (hT : PowT w) : Calls Tryz.prog 94 #[.int .i64 n] w (SP (Wr.int n) w) := by
  have HL := Lib.itoa_length_le n h.1 h.2
  have HC := Lib.hid (fun W (hb : Below w.heap.size w W) => Itoa_any n h W (hT.below hb))
  obtain ⟨l, hl⟩ : ∃ l, l = Lib.itoa n := ⟨_, rfl⟩
  have HG : Hid (Wr.int n = l ++ [59]) := Lib.hid (by rw [hl]; rfl)
  rw [← hl] at HC HL
  clear hT h hl
  go_enter Tryz.func94, Tryz.ntmps94
  go_wp2_with fail
  go_at_call 163; refine (HC.out w (Below.refl _ _)).mono ?_; rintro e w1 ⟨D, hD, hs, rfl, b1⟩
  have HD := Lib.hid hD
  have HB := Lib.hid b1
  have hs2 : D.size ≤ 21 := by omega
  have HS := Lib.hid hs
  clear hD b1 hs HL
  go_wp2_with fail
  go_ret
  exact ⟨D ++ ⟨#[59]⟩, by rw [bs_append, HD.out, HG.out]; rfl, by rw [ByteArray.size_append, HS.out, HG.out, List.length_append]; rfl, rfl, HB.out⟩
set_option maxRecDepth 100000 in
set_option maxHeartbeats 4000000 in
theorem wNum_any (n : Nat) (h : n ≤ 9223372036854775807) (w : World) (hT : PowT w) : Calls Tryz.prog 95 #[.int .i64 n] w (SP (Wr.num n) w) := by
  have HC := Lib.hid (fun W (hb : Below w.heap.size w W) => wInt_any (n : Int) ⟨by omega, by omega⟩ W (hT.below hb))
  have h0 : ¬ (n : Int) < 0 := by omega
  have h1 : decide ((n : Int) < 0) = false := decide_eq_false h0
  clear hT h
  go_enter Tryz.func95, Tryz.ntmps95
  go_wp2_with fail
  go_at_call 94; refine (HC.out w (Below.refl _ _)).mono ?_; rintro e w1 ⟨D, hD, hs, rfl, b1⟩
  have HD := Lib.hid hD
  have HB := Lib.hid b1
  have HS := Lib.hid hs
  clear hD b1 hs
  go_wp2_with fail
  go_ret
  exact ⟨D, HD.out, HS.out, rfl, HB.out⟩
set_option maxRecDepth 100000 in
set_option maxHeartbeats 4000000 in
theorem wText_any (s : ByteArray) (h : s.size ≤ 70000000000000) (w : World) (hT : PowT w) : Calls Tryz.prog 91 #[.string s] w (SP (Wr.text (bs s)) w) := by
  have HL := Lib.itoa_length_le (s.size : Int) (by omega) (by omega)
  have HC := Lib.hid (fun W (hb : Below w.heap.size w W) => Itoa_any (s.size : Int) ⟨by omega, by omega⟩ W (hT.below hb))
  obtain ⟨l, hl⟩ : ∃ l, l = Lib.itoa (s.size : Int) := ⟨_, rfl⟩
  have HG : Hid (Wr.text (bs s) = ((l ++ [58]) ++ bs s) ++ [44]) := Lib.hid (by rw [hl]; unfold Wr.text; rw [bs_len]; simp)
  rw [← hl] at HC HL
  clear hT hl
  go_enter Tryz.func91, Tryz.ntmps91
  go_wp2_with fail
  go_at_call 163; refine (HC.out w (Below.refl _ _)).mono ?_; rintro e w1 ⟨D, hD, hs, rfl, b1⟩
  have HD := Lib.hid hD
  have HB := Lib.hid b1
  have hs2 : D.size ≤ 21 := by omega
  have HS := Lib.hid hs
  clear hD b1 hs HL
  have a1 : (D ++ (⟨#[58]⟩ : ByteArray)).size ≤ 22 := by rw [ByteArray.size_append]; show D.size + 1 ≤ 22; omega
  have a2 : (D ++ (⟨#[58]⟩ : ByteArray) ++ s).size ≤ 70000000000022 := by rw [ByteArray.size_append]; omega
  go_wp2_with fail
  go_ret
  refine ⟨D ++ ⟨#[58]⟩ ++ s ++ ⟨#[44]⟩, by rw [bs_append, bs_append, bs_append, HD.out, HG.out]; rfl, ?_, rfl, HB.out⟩
  rw [ByteArray.size_append, ByteArray.size_append, ByteArray.size_append, HS.out, HG.out, List.length_append, List.length_append, List.length_append, bs_len]; rfl
theorem flat_take {α : Type} {f : α → Wr.B} {l : List α} {k : Nat} (h : k < l.length) : ((l.take (k + 1)).map f).flatten = ((l.take k).map f).flatten ++ f l[k] := by
  rw [List.take_succ_eq_append_getElem h, List.map_append, List.flatten_append]; simp
set_option maxRecDepth 100000 in
set_option maxHeartbeats 8000000 in
theorem wList_any (v : Value) (l : List Int) (hl : l.length ≤ 1000000000) (h64 : ∀ a ∈ l, Wr.I64 a) (w : World) (h : Is w v l) (hT : PowT w) :
    Calls Tryz.prog 164 #[v, .func (.func 94) #[] #[]] w (SP (Wr.nums l) w) := by
  obtain ⟨a, ca, rfl, hm⟩ := h.form
  obtain ⟨n, hn⟩ : ∃ n, n = l.length := ⟨_, rfl⟩
  have HV := Lib.hid h
  rw [← hn] at hm hl HV ⊢
  have HT := Lib.hid hT
  have H64 := Lib.hid h64
  have HI0 := Lib.itoa_length_le (n : Int) (by omega) (by omega)
  have HC := Lib.hid (fun W (hb : Below w.heap.size w W) => Itoa_any (n : Int) ⟨by omega, by omega⟩ W (hT.below hb))
  have HCI := Lib.hid (fun x W (hx : Wr.I64 x) (hb : Below w.heap.size w W) => wInt_any x hx W (hT.below hb))
  obtain ⟨i0, hi0⟩ : ∃ l, l = Lib.itoa (n : Int) := ⟨_, rfl⟩
  rw [← hi0] at HC HI0
  obtain ⟨pre, hpre⟩ : ∃ p, p = i0 ++ [91] := ⟨_, rfl⟩
  have HG : Hid (Wr.nums l = pre ++ (l.map Wr.int).flatten ++ [93]) := Lib.hid (by unfold Wr.nums Wr.list; rw [hpre, hi0, ← hn]; simp)
  have hpl : pre.length ≤ 22 := by rw [hpre, List.length_append]; show i0.length + 1 ≤ 22; omega
  have HPR := Lib.hid hpre
  have HN := Lib.hid hn
  have H0 := Lib.hid (Bw.start w)
  clear h hT h64 hn hi0 hpre
  go_enter Tryz.func164, Tryz.ntmps164
  go_upto_region 2 with fail
  obtain ⟨W, hW⟩ : ∃ W, W = w.alloc (.cells #[.pointer none, .slice none 0 0] 136) := ⟨_, rfl⟩
  rw [← hW] at H0 ⊢
  clear hW
  go_wp2_with fail
  go_at_call 163; refine (HC.out W H0.out.below).mono ?_; rintro e w1 ⟨D, hD, hs, rfl, b1⟩
  have HD := Lib.hid hD
  have H1 := Lib.hid (H0.out.grow b1)
  have hs2 : D.size ≤ 21 := by omega
  clear hD b1 hs
  have HW := Lib.hid (H1.out.writeString (D ++ ⟨#[91]⟩) (by rw [ByteArray.size_append]; show 0 + (D.size + 1) ≤ 140737488355328; omega))
  rw [List.nil_append, bs_append, HD.out, show bs ⟨#[91]⟩ = [91] from rfl, ← HPR.out] at HW
  go_wp2_with fail
  go_at_call 90; refine HW.out.mono ?_; rintro e w2 ⟨rfl, h2⟩
  have H2 : Hid (Bw w (pre ++ ((l.take 0).map Wr.int).flatten) w2) := Lib.hid (by simpa using h2)
  clear h2 HW
  go_wp2_with fail
  go_loopw [15] (fun iv wr => ∃ k : Nat, k ≤ n ∧ iv = .int .i64 k ∧ Hid (Bw w (pre ++ ((l.take k).map Wr.int).flatten) wr)) (fun iv _ => n - (intOf iv).toNat)
  case atStart => exact ⟨0, by omega, rfl, H2⟩
  case round =>
    obtain ⟨k, hk, rfl, HB⟩ := hrel
    by_cases hkn : k < n
    · have hkl : k < l.length := by rw [← HN.out]; exact hkn
      obtain ⟨b, o, e1, c1⟩ := (HV.out.keep HB.out.below).cell k hkl
      subst e1
      have hx64 := H64.out _ (List.getElem_mem hkl)
      have HST := Lib.hid (flat_take (f := Wr.int) hkl)
      have hfl := Wr.flat_len (f := Wr.int) (k := 22) (l := l.take k) (fun a ha => Wr.int_len (H64.out a (List.mem_of_mem_take ha)))
      rw [List.length_take] at hfl
      obtain ⟨x, hx⟩ : ∃ x, l[k] = x := ⟨_, rfl⟩
      rw [hx] at c1 hx64 HST
      have hil := Wr.int_len hx64
      have HCX := Lib.hid (HCI.out x wr hx64 HB.out.below)
      have k0 : (0 : Int) ≤ (k : Int) := by omega
      have k1 : (k : Int) < (n : Int) := by omega
      have hpf : (pre ++ ((l.take k).map Wr.int).flatten).length ≤ 22 + 22 * 1000000000 := by
        rw [List.length_append]
        have := Nat.min_le_left k l.length
        have := Nat.mul_le_mul_right 22 (show min k l.length ≤ 1000000000 by omega)
        omega
      obtain ⟨pf, hpf2⟩ : ∃ p, p = pre ++ ((l.take k).map Wr.int).flatten := ⟨_, rfl⟩
      have HPF := Lib.hid hpf2
      rw [← hpf2] at HB hpf
      clear hx hx64 hpf2 hfl
      go_wp2_with fail
      go_at_call 94; refine HCX.out.mono ?_; rintro e w3 ⟨D2, hD2, hs3, rfl, b3⟩
      have HD2 := Lib.hid hD2
      have H3 := Lib.hid (HB.out.grow b3)
      have hs4 : D2.size ≤ 22 := by omega
      have HW := Lib.hid (H3.out.writeString D2 (by omega))
      clear hD2 b3 hs3
      go_wp2_with fail
      go_at_call 90; refine HW.out.mono ?_; rintro e w4 ⟨rfl, h4⟩
      have H4 : Hid (Bw w (pre ++ ((l.take (k + 1)).map Wr.int).flatten) w4) := Lib.hid (by
        rw [HD2.out, HPF.out, List.append_assoc, ← HST.out] at h4
        exact h4)
      clear h4 HW
      go_wp2_with fail
      go_roundw
      case rel => exact ⟨k + 1, by omega, by go_num, H4⟩
      case measure => simp [intOf]; omega
    · obtain rfl : n = k := by omega
      have HE : Hid (pre ++ ((l.take n).map Wr.int).flatten = pre ++ (l.map Wr.int).flatten) := Lib.hid (by rw [List.take_of_length_le (by rw [← HN.out]; exact Nat.le_refl _)])
      have hfl := Wr.flat_len (f := Wr.int) (k := 22) (l := l) (fun a ha => Wr.int_len (H64.out a ha))
      have hpf : (pre ++ (l.map Wr.int).flatten).length ≤ 22 + 22 * 1000000000 := by
        rw [List.length_append]
        have := HN.out
        have := Nat.mul_le_mul_right 22 (show l.length ≤ 1000000000 by omega)
        omega
      rw [HE.out] at HB
      obtain ⟨pf, hpf2⟩ : ∃ p, p = pre ++ (l.map Wr.int).flatten := ⟨_, rfl⟩
      rw [← hpf2] at HB hpf HG
      clear hpf2 hfl HE
      go_wp2_with fail
      go_at_call 96; refine HB.out.string.mono ?_; rintro e w4 ⟨D3, hD3, hs5, rfl, h5⟩
      have HD3 := Lib.hid hD3
      have HS3 := Lib.hid hs5
      have H5 := Lib.hid h5.below
      have hs6 : D3.size ≤ 22 + 22 * 1000000000 := by omega
      clear hD3 hs5 h5
      go_wp2_with fail
      go_ret
      exact ⟨D3 ++ ⟨#[93]⟩, by rw [bs_append, HD3.out, HG.out]; rfl, by rw [ByteArray.size_append, HS3.out, HG.out, List.length_append]; rfl, rfl, H5.out⟩
set_option maxRecDepth 100000 in
set_option maxHeartbeats 4000000 in
theorem wNums_any (v : Value) (l : List Int) (hl : l.length ≤ 1000000000) (h64 : ∀ a ∈ l, Wr.I64 a) (w : World) (h : Is w v l) (hT : PowT w) :
    Calls Tryz.prog 93 #[v] w (SP (Wr.nums l) w) := by
  have HC := Lib.hid (wList_any v l hl h64 w h hT)
  obtain ⟨a, ca, rfl, hm⟩ := h.form
  clear h hT h64
  go_enter Tryz.func93, Tryz.ntmps93
  go_wp2_with fail
  go_at_call 164; refine HC.out.mono ?_; rintro e w1 ⟨D, hD, hs, rfl, b1⟩
  have HD := Lib.hid hD
  have HB := Lib.hid b1
  have HS := Lib.hid hs
  clear hD b1 hs
  go_wp2_with fail
  go_ret
  exact ⟨D, HD.out, HS.out, rfl, HB.out⟩
end Go.Proofs.YtfcbcpfnaadpeaaGreatDoor
/- Walks of package wire: what a reader's block holds; fail, close. -/
namespace Go.Proofs.YtfcbcpfnaadpeaaGreatDoor
set_option linter.unusedSimpArgs false
set_option linter.unusedVariables false
open Go.RowKit

/-- Of what was there, block b alone may have changed. -/
def NB (b : Nat) (w w' : World) : Prop := w.grownBy w' (some b)
theorem NB.refl (b : Nat) (w : World) : NB b w w := ⟨rfl, rfl, rfl, Nat.le_refl _, fun _ _ _ => rfl⟩
theorem NB.trans {b : Nat} {w w1 w2 : World} (h1 : NB b w w1) (h2 : NB b w1 w2) : NB b w w2 :=
  ⟨h2.os.trans h1.os, h2.tape.trans h1.tape, h2.output.trans h1.output, Nat.le_trans h1.size h2.size, fun k hk hne => (h2.block k (Nat.lt_of_lt_of_le hk h1.size) hne).trans (h1.block k hk hne)⟩
theorem NB.alloc {b : Nat} {w w1 : World} (h : NB b w w1) (o : Obj) : NB b w (w1.alloc o) := h.trans ⟨rfl, rfl, rfl, by simp, fun k hk _ => heap_alloc_old w1 o hk⟩
theorem NB.drew {b : Nat} {w w1 : World} (h : NB b w w1) : NB b w w1.drew := ⟨h.os, h.tape, h.output, h.size, h.block⟩
theorem NB.set {b : Nat} {w w1 : World} (h : NB b w w1) (o : Nat) (v : Value) : NB b w (w1.setCell ⟨b, o, none⟩ v) :=
  h.trans ⟨rfl, rfl, rfl, by simp, fun k _ hk => heap_setCell_other w1 ⟨b, o, none⟩ k v (fun e => hk (by simp [e]))⟩
theorem NB.of_below {b : Nat} {w w' : World} (h : Below w.heap.size w w') : NB b w w' := ⟨h.os, h.tape, h.output, h.size, fun k hk _ => h.block k hk⟩
theorem NB.then {b : Nat} {w w1 w' : World} (h : NB b w w1) (k : Below w1.heap.size w1 w') : NB b w w' := h.trans (NB.of_below k)
theorem NB.below {b B : Nat} {w w' : World} (h : NB b w w') (hB : B ≤ b) (hw : B ≤ w.heap.size) : Below B w w' :=
  ⟨h.os, h.tape, h.output, h.size, fun k hk => h.block k (by omega) (fun e => by injection e with e; omega)⟩
theorem NB.row {b base : Nat} {w w' : World} {e : TypeId} {sz : Nat} {v : Value} {n : Nat} {xs : List Value} (h : NB b w w') (ho : w.ownsRow base e sz v n xs) (hb : b < base) : w'.ownsRow base e sz v n xs := by
  refine World.ownsRow.kept ho h ?_
  cases hv : v.ownBlock with
  | none => exact .inl rfl
  | some g => exact .inr (fun e => by injection e with e; have := (World.ownsRow.lt ho g hv).1; omega)
theorem NB.heap {b k : Nat} {w w' : World} {o : Obj} (h : NB b w w') (hk : w.heap[k]? = some o) (hne : k ≠ b) : w'.heap[k]? = some o := by
  have hlt : k < w.heap.size := (Array.getElem?_eq_some_iff.1 hk).1
  exact (h.block k hlt (fun e => by injection e with e; exact hne e)).trans hk
/-- A reader's block. -/
def Rd (w : World) (b : Nat) (D : ByteArray) (bad : Bool) : Prop := w.heap[b]? = some (.cells #[.string D, .bool bad] 192 (0, 0))
/-- The reader reads what the plain reader reads. -/
def RdS (w : World) (b : Nat) (s : Wr.St) : Prop := ∃ D : ByteArray, bs D = s.1 ∧ Rd w b D s.2
theorem Rd.below {w w' : World} {b : Nat} {D : ByteArray} {bad : Bool} (h : Rd w b D bad) (hb : Below w.heap.size w w') : Rd w' b D bad := (hb.block b (heap_lt h)).trans h
theorem RdS.below {w w' : World} {b : Nat} {s : Wr.St} (h : RdS w b s) (hb : Below w.heap.size w w') : RdS w' b s := by
  obtain ⟨D, h1, h2⟩ := h; exact ⟨D, h1, h2.below hb⟩
theorem Rd.set0 {w : World} {b : Nat} {D E : ByteArray} {bad : Bool} (h : Rd w b D bad) : Rd (w.setCell ⟨b, 0, none⟩ (.string E)) b E bad := set_heap h 0 (.string E)
theorem Rd.set1 {w : World} {b : Nat} {D : ByteArray} {bad c : Bool} (h : Rd w b D bad) : Rd (w.setCell ⟨b, 1, none⟩ (.bool c)) b D c := set_heap h 1 (.bool c)
set_option maxRecDepth 100000 in
set_option maxHeartbeats 4000000 in
theorem rdFail_any (b : Nat) (D : ByteArray) (bad : Bool) (w : World) (h : Rd w b D bad) :
    Calls Tryz.prog 159 #[.pointer (some ⟨b, 0, none⟩)] w fun e w' => e = .returned (.tuple #[]) ∧ NB b w w' ∧ Rd w' b ⟨#[]⟩ true := by
  have hlt := heap_lt h
  have HR := Lib.hid h
  have f0 : w.frozen? ⟨b, 0, none⟩ = false := free_of_heap h 0
  have f1 : w.frozen? ⟨b, 1, none⟩ = false := free_of_heap h 1
  have c0 : w.cell? ⟨b, 0, none⟩ = some (.string D) := cell_of_heap h 0 rfl
  have c1 : w.cell? ⟨b, 1, none⟩ = some (.bool bad) := cell_of_heap h 1 rfl
  clear h
  go_enter Tryz.func159, Tryz.ntmps159
  go_wp2_with fail
  go_end0
  exact ⟨rfl, ((NB.refl b w).set 0 _).set 1 _, (Rd.set0 HR.out).set1⟩
theorem cut_yes {l r : List UInt8} {c : UInt8} (h : l = c :: r) : Lib.hasPrefix l [c] = true ∧ Lib.trimPrefix l [c] = r := by
  subst h; simp [Lib.hasPrefix, Lib.trimPrefix]
theorem cut_no {l : List UInt8} {c : UInt8} (h : ∀ r, l ≠ c :: r) : Lib.hasPrefix l [c] = false ∧ Lib.trimPrefix l [c] = l := by
  have : Lib.hasPrefix l [c] = false := by
    cases l with
    | nil => rfl
    | cons a t =>
      have ha : ¬ c = a := fun e => h t (by rw [e])
      show ([c].isPrefixOf (a :: t)) = false
      rw [List.isPrefixOf_cons_cons]; simp [ha]
  exact ⟨this, by unfold Lib.trimPrefix; rw [this]; rfl⟩
theorem closeS_yes {c : UInt8} {r : List UInt8} {s : Wr.St} (h : s.1 = c :: r) : Wr.closeS c s = (r, s.2) := by
  unfold Wr.closeS; rw [h]; simp
theorem closeS_no {c : UInt8} {s : Wr.St} (h : ∀ r, s.1 ≠ c :: r) : Wr.closeS c s = Wr.fail := by
  unfold Wr.closeS
  cases hs : s.1 with
  | nil => rfl
  | cons a t =>
    have ha : ¬ a = c := fun e => h t (by rw [hs, e])
    simp [ha]
set_option maxRecDepth 100000 in
set_option maxHeartbeats 8000000 in
theorem rdClose_any (b : Nat) (c : UInt8) (E : ByteArray) (hE : bs E = [c]) (s : Wr.St) (w : World) (h : RdS w b s) :
    Calls Tryz.prog 160 #[.pointer (some ⟨b, 0, none⟩), .string E] w fun e w' => e = .returned (.tuple #[]) ∧ NB b w w' ∧ RdS w' b (Wr.closeS c s) := by
  obtain ⟨l, bad⟩ := s
  obtain ⟨D, hD, hR⟩ := h
  simp only at hD hR
  have hlt := heap_lt hR
  have HR := Lib.hid hR
  have HCP := Lib.hid (fun w => Tryz.strings_CutPrefix D E w)
  have f0 : w.frozen? ⟨b, 0, none⟩ = false := free_of_heap hR 0
  have c0 : w.cell? ⟨b, 0, none⟩ = some (.string D) := cell_of_heap hR 0 rfl
  by_cases hp : ∃ r, l = c :: r
  · obtain ⟨r, hp⟩ := hp
    obtain ⟨g1, g2⟩ := cut_yes (hD.trans hp)
    have hcl : Wr.closeS c (l, bad) = (r, bad) := closeS_yes hp
    rw [hcl]
    have HCP2 : Hid (∀ w, Calls Tryz.prog 227 #[.string D, .string E] w fun e w' => e = .returned (.tuple #[.string ⟨r.toArray⟩, .bool true]) ∧ w' = w) := Lib.hid (fun w => by
      have h1 := HCP.out w
      rw [show E.data.toList = [c] from hE, show D.data.toList = bs D from rfl, g1, g2] at h1
      exact h1)
    clear hD hp hcl g1 g2 hE HCP hR
    go_enter Tryz.func160, Tryz.ntmps160
    go_wp2_with fail
    go_at_call 227; refine (HCP2.out _).mono ?_; rintro e w1 ⟨rfl, rfl⟩
    go_wp2_with fail
    go_end0
    exact ⟨rfl, (NB.refl b _).set 0 _, ⟨⟨r.toArray⟩, bs_lit0 r, HR.out.set0⟩⟩
  · have hp2 : ∀ r, l ≠ c :: r := fun r e => hp ⟨r, e⟩
    obtain ⟨g1, g2⟩ := cut_no (l := bs D) (c := c) (fun r e => hp2 r (hD.symm.trans e))
    have hcl : Wr.closeS c (l, bad) = Wr.fail := closeS_no hp2
    rw [hcl]
    have HCP2 : Hid (∀ w, Calls Tryz.prog 227 #[.string D, .string E] w fun e w' => e = .returned (.tuple #[.string D, .bool false]) ∧ w' = w) := Lib.hid (fun w => by
      have h1 := HCP.out w
      rw [show E.data.toList = [c] from hE, show D.data.toList = bs D from rfl, g1, g2] at h1
      exact h1)
    obtain ⟨w2, hw2⟩ : ∃ W, W = w.setCell ⟨b, 0, none⟩ (.string D) := ⟨_, rfl⟩
    have N2 : Hid (NB b w w2) := Lib.hid (by rw [hw2]; exact (NB.refl b w).set 0 _)
    have R2 : Hid (Rd w2 b D bad) := Lib.hid (by rw [hw2]; exact hR.set0)
    have HW2 := Lib.hid hw2
    have HFL := Lib.hid (rdFail_any b D bad w2 R2.out)
    clear hD hp hp2 hcl g1 g2 hE HCP hR hw2
    go_enter Tryz.func160, Tryz.ntmps160
    go_wp2_with fail
    go_at_call 227; refine (HCP2.out _).mono ?_; rintro e w1 ⟨rfl, rfl⟩
    go_upto_region 2 with fail
    rw [← HW2.out]
    go_wp2_with fail
    go_at_call 159; refine HFL.out.mono ?_; rintro e w3 ⟨rfl, n3, r3⟩
    go_wp2_with fail
    go_end0
    exact ⟨rfl, N2.out.trans n3, ⟨_, rfl, r3⟩⟩
end Go.Proofs.YtfcbcpfnaadpeaaGreatDoor
/- Walks of package wire: number. -/
namespace Go.Proofs.YtfcbcpfnaadpeaaGreatDoor
set_option linter.unusedSimpArgs false
set_option linter.unusedVariables false
open Go.RowKit

theorem Tryz.gSyn : Tryz.prog.globalNamed "strconv.ErrSyntax" = some 2 := by kernel_rfl
theorem Tryz.gRan : Tryz.prog.globalNamed "strconv.ErrRange" = some 3 := by kernel_rfl
/-- What reading asks of the world. -/
structure EnvR (w : World) : Prop where
  syn : ∃ ev, w.cell? ⟨2, 0, none⟩ = some ev ∧ (ev = .nilIface ∨ ∃ te pe, ev = .iface te pe)
  ran : ∃ ev, w.cell? ⟨3, 0, none⟩ = some ev ∧ (ev = .nilIface ∨ ∃ te pe, ev = .iface te pe)
  pow : PowT w
theorem EnvR.below {w w' : World} (h : EnvR w) (hb : Below w.heap.size w w') : EnvR w' := by
  refine ⟨?_, ?_, h.pow.below hb⟩
  · obtain ⟨m, hm, hx⟩ := h.syn; exact ⟨m, (hb.cell (cell_block_lt hm)).trans hm, hx⟩
  · obtain ⟨m, hm, hx⟩ := h.ran; exact ⟨m, (hb.cell (cell_block_lt hm)).trans hm, hx⟩
theorem Atoi_ok (s : ByteArray) (hs : s.size ≤ 1073741824) (v : Int) (h : Lib.atoiAll (bs s) = .ok v) (w : World) :
    Calls Tryz.prog 226 #[.string s] w fun e w' => e = .returned (.tuple #[.int .i64 v, .nilIface]) ∧ Below w.heap.size w w' := by
  refine (Tryz.strconv_Atoi_ok s (by omega) v h w).mono ?_
  rintro e w' ⟨rfl, rfl | ⟨t, rfl⟩⟩
  · exact ⟨rfl, Below.refl _ _⟩
  · exact ⟨rfl, Go.Joins.below_bytesWorld _ _ _ _ (Nat.le_refl _)⟩
theorem Atoi_bad (s : ByteArray) (hs : s.size ≤ 1073741824) (h : ∀ v, Lib.atoiAll (bs s) ≠ .ok v) (w : World) (hE : EnvR w) :
    Calls Tryz.prog 226 #[.string s] w fun e w' => ∃ x N, e = .returned (.tuple #[.int .i64 x, .iface 308 (.pointer (some ⟨N, 0, none⟩))]) ∧ Below w.heap.size w w' := by
  cases hp : Lib.atoiAll (bs s) with
  | ok v => exact absurd hp (h v)
  | «syntax» =>
    obtain ⟨ev, hv, hev⟩ := hE.syn
    refine (Tryz.strconv_Atoi_syntax s (by omega) hp ev w hv hev).mono ?_
    rintro e w' ⟨N, rfl, -, -, hb⟩
    exact ⟨_, N, rfl, hb⟩
  | range =>
    obtain ⟨ev, hv, hev⟩ := hE.ran
    refine (Tryz.strconv_Atoi_range s (by omega) hp ev w hv hev).mono ?_
    rintro e w' ⟨N, rfl, -, -, hb⟩
    exact ⟨_, N, rfl, hb⟩
theorem ix_find (e : UInt8) : ∀ l : List UInt8, Lib.indexByte l e = match l.findIdx? (· == e) with | none => -1 | some k => (k : Int)
  | [] => rfl
  | a :: l => by
    rw [Lib.indexByte, List.findIdx?_cons, ix_find e l]
    by_cases ha : (a == e) = true
    · rw [if_pos ha, if_pos ha]; rfl
    · rw [if_neg ha, if_neg ha]
      cases h : l.findIdx? (· == e) with
      | none => simp
      | some k =>
        have : ¬ ((k : Int) == -1) = true := by simp
        simp only [Option.map_some, this, if_false]
        simp
theorem numS_no {e : UInt8} {least : Int} {l : List UInt8} {bad : Bool} (h : (l.take 21).findIdx? (· == e) = none) : Wr.numS e least (l, bad) = (0, Wr.fail) := by
  unfold Wr.numS Wr.numR; rw [h]
theorem numS_err {e : UInt8} {least : Int} {l : List UInt8} {bad : Bool} {k : Nat} (h : (l.take 21).findIdx? (· == e) = some k) (ha : ∀ n, Lib.atoiAll (l.take k) ≠ .ok n) : Wr.numS e least (l, bad) = (0, Wr.fail) := by
  unfold Wr.numS Wr.numR; rw [h]
  cases hp : Lib.atoiAll (l.take k) with
  | ok v => exact absurd hp (ha v)
  | «syntax» => simp [hp]
  | range => simp [hp]
theorem numS_odd {e : UInt8} {least n : Int} {l : List UInt8} {bad : Bool} {k : Nat} (h : (l.take 21).findIdx? (· == e) = some k) (ha : Lib.atoiAll (l.take k) = .ok n) (hx : ¬ (Lib.itoa n = l.take k ∧ least ≤ n)) : Wr.numS e least (l, bad) = (0, Wr.fail) := by
  unfold Wr.numS Wr.numR; rw [h]
  simp only
  rw [ha]
  simp only
  rw [if_neg hx]
theorem numS_yes {e : UInt8} {least n : Int} {l : List UInt8} {bad : Bool} {k : Nat} (h : (l.take 21).findIdx? (· == e) = some k) (ha : Lib.atoiAll (l.take k) = .ok n) (hx : Lib.itoa n = l.take k ∧ least ≤ n) : Wr.numS e least (l, bad) = (n, (l.drop (k + 1), bad)) := by
  unfold Wr.numS Wr.numR; rw [h]
  simp only
  rw [ha]
  simp only
  rw [if_pos hx]
theorem find_lt {e : UInt8} {l : List UInt8} {k : Nat} (h : (l.take 21).findIdx? (· == e) = some k) : k < 21 ∧ k < l.length := by
  have := (List.findIdx?_eq_some_iff_findIdx_eq.1 h).1
  rw [List.length_take] at this; omega
theorem toListB (s : ByteArray) : s.toList = bs s := by
  obtain ⟨⟨l⟩⟩ := s
  simp [bs]
theorem bs_upto (D : ByteArray) (n : Nat) : bs (D.extract 0 n) = (bs D).take n := by
  have h1 : bs (D.extract 0 n) = ((bs D).drop 0).take (n - 0) := Lib.extract_data D 0 n
  rwa [List.drop_zero, Nat.sub_zero] at h1
theorem bs_from (D : ByteArray) (n : Nat) : bs (D.extract n D.size) = (bs D).drop n := Lib.extract_to_end D n
set_option maxRecDepth 100000 in
set_option maxHeartbeats 16000000 in
theorem rdNumber_any (b : Nat) (e : UInt8) (ei least : Int) (hei : ei = (e.toNat : Int)) (s : Wr.St) (w : World) (h : RdS w b s) (hE : EnvR w) (hl : s.1.length ≤ 1000000000) (hle : least ≤ 0) :
    Calls Tryz.prog 158 #[.pointer (some ⟨b, 0, none⟩), .int .u8 ei, .int .i64 least] w fun r w' => r = .returned (.int .i64 (Wr.numS e least s).1) ∧ NB b w w' ∧ RdS w' b (Wr.numS e least s).2 := by
  obtain ⟨l, bad⟩ := s
  obtain ⟨D, hD, hR⟩ := h
  simp only at hD hR hl
  have hDs : D.size = l.length := by rw [← bs_len, hD]
  have hlt := heap_lt hR
  have HR := Lib.hid hR
  have HEE := Lib.hid (fun W (hb : Below w.heap.size w W) => hE.below hb)
  have f0 : w.frozen? ⟨b, 0, none⟩ = false := free_of_heap hR 0
  have c0 : w.cell? ⟨b, 0, none⟩ = some (.string D) := cell_of_heap hR 0 rfl
  obtain ⟨m, hm⟩ : ∃ m, min D.size 21 = m := ⟨_, rfl⟩
  have hm1 : m ≤ D.size := by omega
  have hm2 : m ≤ 21 := by omega
  obtain ⟨H, hH⟩ : ∃ H, D.extract 0 m = H := ⟨_, rfl⟩
  have hHb : bs H = l.take 21 := by
    rw [← hH, bs_upto, hD, ← hm, hDs]
    rcases Nat.le_total l.length 21 with h9 | h9
    · rw [Nat.min_eq_left h9, List.take_of_length_le (Nat.le_refl _), List.take_of_length_le h9]
    · rw [Nat.min_eq_right h9]
  have hHs : H.size = m := by rw [← bs_len, hHb, List.length_take]; omega
  have HIX : Hid (∀ w, Calls Tryz.prog 198 #[.string H, .int .u8 ei] w fun e' w' => e' = .returned (.int .i64 (match (l.take 21).findIdx? (· == e) with | none => -1 | some k => (k : Int))) ∧ w' = w) := Lib.hid (fun w => by
    have h1 := Tryz.strings_IndexByte H ei w
    rw [show H.data.toList = bs H from rfl, hHb, show ei.toNat.toUInt8 = e by rw [hei]; simp, ix_find] at h1
    exact h1)
  have hmin : min ((D.size : Nat) : Int) 21 = (m : Int) := by omega
  have m0 : (0 : Int) ≤ (m : Int) := by omega
  have m1 : (m : Int) ≤ (D.size : Int) := by omega
  have HDD := Lib.hid hD
  have HHB := Lib.hid hHb
  have HMM := Lib.hid hm
  have HDs := Lib.hid hDs
  obtain ⟨X, hX⟩ : ∃ X, Wr.numS e least (l, bad) = X := ⟨_, rfl⟩
  rw [hX]
  have HXX := Lib.hid hX
  clear hD hHb hei hE hR hDs hm hX
  go_enter Tryz.func158, Tryz.ntmps158
  go_upto_region 1 with fail
  refine wp_region_held_drew (S := fun W' => W'.cell? ⟨b, 0, none⟩ = some (.string D)) (by kernel_rfl) c0 (fun hHeld => ?_)
  obtain ⟨w1, hwx⟩ : ∃ W, W = w.drew := ⟨_, rfl⟩
  rw [← hwx] at hHeld ⊢
  have B1 : Hid (Below w.heap.size w w1) := Lib.hid (by subst hwx; exact ⟨rfl, rfl, rfl, Nat.le_refl _, fun _ _ => rfl⟩)
  clear hwx
  refine wpAnyH_take (i := 0) (oi := _) (v := ?_) rfl (by kernel_rfl) (by kernel_rfl) (by kernel_rfl) (fun _ _ _ h => h) (Or.inl ⟨by rfl, ?_⟩) (by assumption) ?_
  rotate_left
  · intro w k0; go_simp; all_goals (with_reducible rfl)
  try simp only [Act.put, List.getElem_toArray, List.getElem_cons_zero, List.getElem_cons_succ, List.setIfInBounds_toArray, List.set_cons_zero, List.set_cons_succ]
  refine wpAnyH_take (i := 1) (oi := _) (v := ?_) rfl (by kernel_rfl) (by kernel_rfl) (by kernel_rfl) (fun _ _ _ h => h) (Or.inl ⟨by rfl, ?_⟩) (by assumption) ?_
  rotate_left
  · intro w k0; go_simp; all_goals (with_reducible rfl)
  try simp only [Act.put, List.getElem_toArray, List.getElem_cons_zero, List.getElem_cons_succ, List.setIfInBounds_toArray, List.set_cons_zero, List.set_cons_succ]
  refine wpAnyH_take (i := 2) (oi := _) (v := ?_) rfl (by kernel_rfl) (by kernel_rfl) (by kernel_rfl) (fun _ _ _ h => h) (Or.inl ⟨by rfl, ?_⟩) (by assumption) ?_
  rotate_left
  · intro w k0; go_simp; all_goals (with_reducible rfl)
  try simp only [Act.put, List.getElem_toArray, List.getElem_cons_zero, List.getElem_cons_succ, List.setIfInBounds_toArray, List.set_cons_zero, List.set_cons_succ]
  refine wpAnyH_take (i := 3) (oi := _) (v := ?_) rfl (by kernel_rfl) (by kernel_rfl) (by kernel_rfl) (fun _ _ _ h => h) (Or.inl ⟨by rfl, ?_⟩) (by assumption) ?_
  rotate_left
  · intro w k0; go_simp; all_goals (with_reducible rfl)
  try simp only [Act.put, List.getElem_toArray, List.getElem_cons_zero, List.getElem_cons_succ, List.setIfInBounds_toArray, List.set_cons_zero, List.set_cons_succ]
  refine wpAnyH_take (i := 4) (oi := _) (v := ?_) rfl (by kernel_rfl) (by kernel_rfl) (by kernel_rfl) (fun _ _ _ h => h) (Or.inl ⟨by rfl, ?_⟩) (by assumption) ?_
  rotate_left
  · intro w k0; go_simp; all_goals (with_reducible rfl)
  try simp only [Act.put, List.getElem_toArray, List.getElem_cons_zero, List.getElem_cons_succ, List.setIfInBounds_toArray, List.set_cons_zero, List.set_cons_succ]
  refine wpAnyH_take (i := 5) (oi := _) (v := ?_) rfl (by kernel_rfl) (by kernel_rfl) (by kernel_rfl) (fun _ _ _ h => h) (Or.inl ⟨by rfl, ?_⟩) (by assumption) ?_
  rotate_left
  · intro w k0; go_simp; all_goals (with_reducible rfl)
  try simp only [Act.put, List.getElem_toArray, List.getElem_cons_zero, List.getElem_cons_succ, List.setIfInBounds_toArray, List.set_cons_zero, List.set_cons_succ]
  refine wpAnyH_take (i := 6) (oi := _) (v := ?_) rfl (by kernel_rfl) (by kernel_rfl) (by kernel_rfl) (fun _ _ _ h => h) (Or.inl ⟨by rfl, ?_⟩) (by assumption) ?_
  rotate_left
  · intro w k0; go_simp; all_goals (with_reducible rfl)
  try simp only [Act.put, List.getElem_toArray, List.getElem_cons_zero, List.getElem_cons_succ, List.setIfInBounds_toArray, List.set_cons_zero, List.set_cons_succ]
  refine wpAnyH_take (i := 7) (oi := _) (v := ?_) rfl (by kernel_rfl) (by kernel_rfl) (by kernel_rfl) (fun _ _ _ h => h) (Or.inl ⟨by rfl, ?_⟩) (by assumption) ?_
  rotate_left
  · intro w k0; go_simp; all_goals (with_reducible rfl)
  try simp only [Act.put, List.getElem_toArray, List.getElem_cons_zero, List.getElem_cons_succ, List.setIfInBounds_toArray, List.set_cons_zero, List.set_cons_succ]
  refine wpAnyH_take (i := 8) (oi := _) (v := ?_) rfl (by kernel_rfl) (by kernel_rfl) (by kernel_rfl) (fun _ _ _ h => h) (Or.inl ⟨by rfl, ?_⟩) (by assumption) ?_
  rotate_left
  · intro w k0; go_simp; all_goals (with_reducible rfl)
  try simp only [Act.put, List.getElem_toArray, List.getElem_cons_zero, List.getElem_cons_succ, List.setIfInBounds_toArray, List.set_cons_zero, List.set_cons_succ]
  refine wpAnyH_take (i := 9) (oi := _) (v := ?_) rfl (by kernel_rfl) (by kernel_rfl) (by kernel_rfl) (fun _ _ _ h => h) (Or.inl ⟨by rfl, ?_⟩) (by assumption) ?_
  rotate_left
  · intro w k0; go_simp; all_goals (with_reducible rfl)
  try simp only [Act.put, List.getElem_toArray, List.getElem_cons_zero, List.getElem_cons_succ, List.setIfInBounds_toArray, List.set_cons_zero, List.set_cons_succ]
  refine wpAnyH_take (i := 10) (oi := _) (v := ?_) rfl (by kernel_rfl) (by kernel_rfl) (by kernel_rfl) (fun _ _ _ h => h) (Or.inl ⟨by rfl, ?_⟩) (by assumption) ?_
  rotate_left
  · intro w k0; go_simp; all_goals (with_reducible rfl)
  try simp only [Act.put, List.getElem_toArray, List.getElem_cons_zero, List.getElem_cons_succ, List.setIfInBounds_toArray, List.set_cons_zero, List.set_cons_succ]
  refine wpAnyH_take (i := 11) (oi := _) (v := ?_) rfl (by kernel_rfl) (by kernel_rfl) (by kernel_rfl) (fun _ _ _ h => h) (Or.inl ⟨by rfl, ?_⟩) (by assumption) ?_
  rotate_left
  · intro w k0; go_simp; all_goals (with_reducible rfl)
  try simp only [Act.put, List.getElem_toArray, List.getElem_cons_zero, List.getElem_cons_succ, List.setIfInBounds_toArray, List.set_cons_zero, List.set_cons_succ]
  refine wpAnyH_done (by kernel_rfl) ?_ _
  have R1 : Hid (Rd w1 b D bad) := Lib.hid (HR.out.below B1.out)
  clear hHeld hH hmin c0 f0
  obtain ⟨F, hF⟩ : ∃ F, (l.take 21).findIdx? (· == e) = F := ⟨_, rfl⟩
  rw [hF] at HIX
  cases F with
  | none =>
    have hX := HXX.out.symm.trans (numS_no (least := least) (bad := bad) hF)
    subst hX
    simp only at HIX
    clear hF HXX
    go_wp2_with fail
    go_at_call 198; refine (HIX.out _).mono ?_; rintro e w2 ⟨rfl, rfl⟩
    go_wp2_with fail
    go_at_call 159; refine (rdFail_any b D bad _ R1.out).mono ?_; rintro e w3 ⟨rfl, n3, r3⟩
    go_wp2_with fail
    go_ret
    exact ⟨rfl, (NB.of_below B1.out).trans n3, ⟨_, rfl, r3⟩⟩
  | some k =>
    simp only at HIX
    obtain ⟨k1, k2⟩ := find_lt hF
    have kD : k < D.size := by rw [HDs.out]; exact k2
    have kH : k ≤ H.size := by
      have h1 : min D.size 21 = m := HMM.out
      omega
    have km : k ≤ m := by omega
    obtain ⟨K, hK⟩ : ∃ K, H.extract 0 k = K := ⟨_, rfl⟩
    have hKb : bs K = l.take k := by rw [← hK, bs_upto, HHB.out, List.take_take, Nat.min_eq_left (by omega)]
    have hKs : K.size ≤ 1073741824 := by rw [← bs_len, hKb, List.length_take]; omega
    have kk0 : (0 : Int) ≤ (k : Int) := by omega
    have kk1 : (k : Int) ≤ (H.size : Int) := by omega
    have kk9 : ¬ (k : Int) < 0 := by omega
    have XE := Lib.hid (fun h => HXX.out.symm.trans (numS_err (least := least) (bad := bad) hF h))
    have XO := Lib.hid (fun n h1 h2 => HXX.out.symm.trans (numS_odd (n := n) (least := least) (bad := bad) hF h1 h2))
    have XY := Lib.hid (fun n h1 h2 => HXX.out.symm.trans (numS_yes (n := n) (least := least) (bad := bad) hF h1 h2))
    clear hF HXX
    by_cases hok : ∃ n, Lib.atoiAll (l.take k) = .ok n
    case neg =>
      have hno : ∀ v, Lib.atoiAll (bs K) ≠ .ok v := fun v h => hok ⟨v, by rw [← hKb]; exact h⟩
      have HAT := Lib.hid (Atoi_bad K hKs hno w1 (HEE.out w1 B1.out))
      have hXX := XE.out (fun n h => hok ⟨n, h⟩)
      subst hXX
      clear hok hno XE XO XY hKb
      go_wp2_with fail
      go_at_call 198; refine (HIX.out _).mono ?_; rintro e w2 ⟨rfl, rfl⟩
      go_wp2_with fail
      go_at_call 226; refine HAT.out.mono ?_; rintro e w3 ⟨x, N, rfl, b3⟩
      have B3 := Lib.hid (B1.out.trans (b3.mono B1.out.size))
      have R3 := Lib.hid (R1.out.below b3)
      clear b3 HAT HIX
      go_wp2_with fail
      go_quiet (fail)
      go_wp2_with fail
      go_at_call 159; refine (rdFail_any b D bad _ (R3.out.below (below_drewN _ _ _))).mono ?_; rintro e w4 ⟨rfl, n4, r4⟩
      go_wp2_with fail
      go_ret
      exact ⟨rfl, ((NB.of_below B3.out).then (below_drewN _ _ _)).trans n4, ⟨_, rfl, r4⟩⟩
    case pos =>
      obtain ⟨n, hok⟩ := hok
      have HAT := Lib.hid (Atoi_ok K hKs n (by rw [hKb]; exact hok) w1)
      have h64 : Wr.I64 n := Lib.atoiAll_bounds hok
      have XO' := Lib.hid (XO.out n hok)
      have XY' := Lib.hid (XY.out n hok)
      have HIT := Lib.hid (fun W (hb : Below w.heap.size w W) => Itoa_any n h64 W (HEE.out W hb).pow)
      have HKB := Lib.hid hKb
      clear hok XE XO XY h64 hKb
      go_wp2_with fail
      go_at_call 198; refine (HIX.out _).mono ?_; rintro e w2 ⟨rfl, rfl⟩
      go_wp2_with fail
      go_at_call 226; refine HAT.out.mono ?_; rintro e w3 ⟨rfl, b3⟩
      have B3 := Lib.hid (B1.out.trans (b3.mono B1.out.size))
      have R3 := Lib.hid (R1.out.below b3)
      clear b3 HAT HIX
      go_upto_region 7 with fail
      refine wp_region_held_drew (S := fun _ => True) (by kernel_rfl) trivial (fun hHeld => ?_)
      obtain ⟨w4, hwx⟩ : ∃ W, W = w3.drew := ⟨_, rfl⟩
      rw [← hwx]
      have b4 : Below w3.heap.size w3 w4 := by subst hwx; exact ⟨rfl, rfl, rfl, Nat.le_refl _, fun _ _ => rfl⟩
      have B4 := Lib.hid (B3.out.trans (b4.mono B3.out.size))
      have R4 := Lib.hid (R3.out.below b4)
      clear hwx b4
      refine wpAnyH_take (i := 0) (oi := _) (v := ?_) rfl (by kernel_rfl) (by kernel_rfl) (by kernel_rfl) (fun _ _ _ h => h) (Or.inl ⟨by rfl, ?_⟩) (by assumption) ?_
      rotate_left
      · intro w k0; go_simp; all_goals (with_reducible rfl)
      try simp only [Act.put, List.getElem_toArray, List.getElem_cons_zero, List.getElem_cons_succ, List.setIfInBounds_toArray, List.set_cons_zero, List.set_cons_succ]
      refine wpAnyH_take (i := 1) (oi := _) (v := ?_) rfl (by kernel_rfl) (by kernel_rfl) (by kernel_rfl) (fun _ _ _ h => h) (Or.inl ⟨by rfl, ?_⟩) (by assumption) ?_
      rotate_left
      · intro w k0; go_simp; all_goals (with_reducible rfl)
      try simp only [Act.put, List.getElem_toArray, List.getElem_cons_zero, List.getElem_cons_succ, List.setIfInBounds_toArray, List.set_cons_zero, List.set_cons_succ]
      refine wpAnyH_take (i := 2) (oi := _) (v := ?_) rfl (by kernel_rfl) (by kernel_rfl) (by kernel_rfl) (fun _ _ _ h => h) (Or.inl ⟨by rfl, ?_⟩) (by assumption) ?_
      rotate_left
      · intro w k0; go_simp; all_goals (with_reducible rfl)
      try simp only [Act.put, List.getElem_toArray, List.getElem_cons_zero, List.getElem_cons_succ, List.setIfInBounds_toArray, List.set_cons_zero, List.set_cons_succ]
      refine wpAnyH_take (i := 3) (oi := _) (v := ?_) rfl (by kernel_rfl) (by kernel_rfl) (by kernel_rfl) (fun _ _ _ h => h) (Or.inl ⟨by rfl, ?_⟩) (by assumption) ?_
      rotate_left
      · intro w k0; go_simp; all_goals (with_reducible rfl)
      try simp only [Act.put, List.getElem_toArray, List.getElem_cons_zero, List.getElem_cons_succ, List.setIfInBounds_toArray, List.set_cons_zero, List.set_cons_succ]
      refine wpAnyH_take (i := 5) (oi := _) (v := ?_) rfl (by kernel_rfl) (by kernel_rfl) (by kernel_rfl) (fun _ _ _ h => h) (Or.inl ⟨by rfl, ?_⟩) (by assumption) ?_
      rotate_left
      · intro w k0; go_simp; all_goals (with_reducible rfl)
      try simp only [Act.put, List.getElem_toArray, List.getElem_cons_zero, List.getElem_cons_succ, List.setIfInBounds_toArray, List.set_cons_zero, List.set_cons_succ]
      refine wpAnyH_take (i := 6) (oi := _) (v := ?_) rfl (by kernel_rfl) (by kernel_rfl) (by kernel_rfl) (fun _ _ _ h => h) (Or.inl ⟨by rfl, ?_⟩) (by assumption) ?_
      rotate_left
      · intro w k0; go_simp; all_goals (with_reducible rfl)
      try simp only [Act.put, List.getElem_toArray, List.getElem_cons_zero, List.getElem_cons_succ, List.setIfInBounds_toArray, List.set_cons_zero, List.set_cons_succ]
      refine wpAnyH_take (i := 7) (oi := _) (v := ?_) rfl (by kernel_rfl) (by kernel_rfl) (by kernel_rfl) (fun _ _ _ h => h) (Or.inl ⟨by rfl, ?_⟩) (by assumption) ?_
      rotate_left
      · intro w k0; go_simp; all_goals (with_reducible rfl)
      try simp only [Act.put, List.getElem_toArray, List.getElem_cons_zero, List.getElem_cons_succ, List.setIfInBounds_toArray, List.set_cons_zero, List.set_cons_succ]
      refine wpAnyH_ready (rs := [4]) (by kernel_rfl) (by simp) ?_
      refine AllReadyH.cons (o := _) rfl (fun K9 hK9 => ?_) AllReadyH.nil
      go_simp
      go_at_call 163; refine (HIT.out _ B4.out).mono ?_; rintro e w5 ⟨E, hE, hEs, rfl, b5⟩
      have B5 := Lib.hid (B4.out.trans (b5.mono B4.out.size))
      have R5 := Lib.hid (R4.out.below b5)
      clear b5
      go_wp2_with fail
      refine hK9.out _ _ trivial (fun hHeld => ?_)
      clear hK9 K9
      try simp only [Act.put, List.getElem_toArray, List.getElem_cons_zero, List.getElem_cons_succ, List.setIfInBounds_toArray, List.set_cons_zero, List.set_cons_succ]
      by_cases heq : Lib.itoa n = l.take k
      case neg =>
        have hq : (E.toList == K.toList) = false := by
          rw [toListB, toListB, hE, HKB.out]; exact beq_eq_false_iff_ne.2 heq
        have hX := XO'.out (fun h => heq h.1)
        subst hX
        clear XO' XY' heq hE
        refine wpAnyH_take (i := 8) (oi := _) (v := ?_) rfl (by kernel_rfl) (by kernel_rfl) (by kernel_rfl) (fun _ _ _ h => h) (Or.inl ⟨by rfl, ?_⟩) (by assumption) ?_
        rotate_left
        · intro w k0; go_simp; all_goals (with_reducible rfl)
        try simp only [Act.put, List.getElem_toArray, List.getElem_cons_zero, List.getElem_cons_succ, List.setIfInBounds_toArray, List.set_cons_zero, List.set_cons_succ]
        refine wpAnyH_take (i := 9) (oi := _) (v := ?_) rfl (by kernel_rfl) (by kernel_rfl) (by kernel_rfl) (fun _ _ _ h => h) (Or.inl ⟨by rfl, ?_⟩) (by assumption) ?_
        rotate_left
        · intro w k0; go_simp; all_goals (with_reducible rfl)
        try simp only [Act.put, List.getElem_toArray, List.getElem_cons_zero, List.getElem_cons_succ, List.setIfInBounds_toArray, List.set_cons_zero, List.set_cons_succ]
        refine wpAnyH_take (i := 10) (oi := _) (v := ?_) rfl (by kernel_rfl) (by kernel_rfl) (by kernel_rfl) (fun _ _ _ h => h) (Or.inl ⟨by rfl, ?_⟩) (by assumption) ?_
        rotate_left
        · intro w k0; go_simp; all_goals (with_reducible rfl)
        try simp only [Act.put, List.getElem_toArray, List.getElem_cons_zero, List.getElem_cons_succ, List.setIfInBounds_toArray, List.set_cons_zero, List.set_cons_succ]
        refine wpAnyH_take (i := 11) (oi := _) (v := undef) rfl (by kernel_rfl) (by kernel_rfl) (by kernel_rfl) (fun _ _ _ h => h) (Or.inr ⟨by rfl, rfl⟩) (by assumption) ?_
        try simp only [Act.put, List.getElem_toArray, List.getElem_cons_zero, List.getElem_cons_succ, List.setIfInBounds_toArray, List.set_cons_zero, List.set_cons_succ]
        refine wpAnyH_take (i := 12) (oi := _) (v := undef) rfl (by kernel_rfl) (by kernel_rfl) (by kernel_rfl) (fun _ _ _ h => h) (Or.inr ⟨by rfl, rfl⟩) (by assumption) ?_
        try simp only [Act.put, List.getElem_toArray, List.getElem_cons_zero, List.getElem_cons_succ, List.setIfInBounds_toArray, List.set_cons_zero, List.set_cons_succ]
        refine wpAnyH_take (i := 13) (oi := _) (v := undef) rfl (by kernel_rfl) (by kernel_rfl) (by kernel_rfl) (fun _ _ _ h => h) (Or.inr ⟨by rfl, rfl⟩) (by assumption) ?_
        try simp only [Act.put, List.getElem_toArray, List.getElem_cons_zero, List.getElem_cons_succ, List.setIfInBounds_toArray, List.set_cons_zero, List.set_cons_succ]
        refine wpAnyH_take (i := 14) (oi := _) (v := ?_) rfl (by kernel_rfl) (by kernel_rfl) (by kernel_rfl) (fun _ _ _ h => h) (Or.inl ⟨by rfl, ?_⟩) (by assumption) ?_
        rotate_left
        · intro w k0; go_simp; all_goals (with_reducible rfl)
        try simp only [Act.put, List.getElem_toArray, List.getElem_cons_zero, List.getElem_cons_succ, List.setIfInBounds_toArray, List.set_cons_zero, List.set_cons_succ]
        refine wpAnyH_done (by kernel_rfl) ?_ _
        go_wp2_with fail
        go_at_call 159; refine (rdFail_any b D bad _ R5.out).mono ?_; rintro e w6 ⟨rfl, n6, r6⟩
        go_wp2_with fail
        go_ret
        exact ⟨rfl, (NB.of_below B5.out).trans n6, ⟨_, rfl, r6⟩⟩
      case pos =>
        have hEK : E = K := bs_inj (hE.trans (heq.trans HKB.out.symm))
        subst hEK
        refine wpAnyH_take (i := 8) (oi := _) (v := ?_) rfl (by kernel_rfl) (by kernel_rfl) (by kernel_rfl) (fun _ _ _ h => h) (Or.inl ⟨by rfl, ?_⟩) (by assumption) ?_
        rotate_left
        · intro w k0; go_simp; all_goals (with_reducible rfl)
        try simp only [Act.put, List.getElem_toArray, List.getElem_cons_zero, List.getElem_cons_succ, List.setIfInBounds_toArray, List.set_cons_zero, List.set_cons_succ]
        try simp only [bne_self_eq_false]
        refine wpAnyH_take (i := 9) (oi := _) (v := ?_) rfl (by kernel_rfl) (by kernel_rfl) (by kernel_rfl) (fun _ _ _ h => h) (Or.inl ⟨by rfl, ?_⟩) (by assumption) ?_
        rotate_left
        · intro w k0; go_simp; all_goals (with_reducible rfl)
        try simp only [Act.put, List.getElem_toArray, List.getElem_cons_zero, List.getElem_cons_succ, List.setIfInBounds_toArray, List.set_cons_zero, List.set_cons_succ]
        refine wpAnyH_take (i := 10) (oi := _) (v := ?_) rfl (by kernel_rfl) (by kernel_rfl) (by kernel_rfl) (fun _ _ _ h => h) (Or.inl ⟨by rfl, ?_⟩) (by assumption) ?_
        rotate_left
        · intro w k0; go_simp; all_goals (with_reducible rfl)
        try simp only [Act.put, List.getElem_toArray, List.getElem_cons_zero, List.getElem_cons_succ, List.setIfInBounds_toArray, List.set_cons_zero, List.set_cons_succ]
        by_cases hle9 : n < least
        · have hX := XO'.out (fun h => by omega)
          subst hX
          clear XO' XY' heq hE
          refine wpAnyH_take (i := 11) (oi := _) (v := ?_) rfl (by kernel_rfl) (by kernel_rfl) (by kernel_rfl) (fun _ _ _ h => h) (Or.inl ⟨by rfl, ?_⟩) (by assumption) ?_
          rotate_left
          · intro w k0; go_simp; all_goals (with_reducible rfl)
          try simp only [Act.put, List.getElem_toArray, List.getElem_cons_zero, List.getElem_cons_succ, List.setIfInBounds_toArray, List.set_cons_zero, List.set_cons_succ]
          refine wpAnyH_take (i := 12) (oi := _) (v := ?_) rfl (by kernel_rfl) (by kernel_rfl) (by kernel_rfl) (fun _ _ _ h => h) (Or.inl ⟨by rfl, ?_⟩) (by assumption) ?_
          rotate_left
          · intro w k0; go_simp; all_goals (with_reducible rfl)
          try simp only [Act.put, List.getElem_toArray, List.getElem_cons_zero, List.getElem_cons_succ, List.setIfInBounds_toArray, List.set_cons_zero, List.set_cons_succ]
          refine wpAnyH_take (i := 13) (oi := _) (v := ?_) rfl (by kernel_rfl) (by kernel_rfl) (by kernel_rfl) (fun _ _ _ h => h) (Or.inl ⟨by rfl, ?_⟩) (by assumption) ?_
          rotate_left
          · intro w k0; go_simp; all_goals (with_reducible rfl)
          try simp only [Act.put, List.getElem_toArray, List.getElem_cons_zero, List.getElem_cons_succ, List.setIfInBounds_toArray, List.set_cons_zero, List.set_cons_succ]
          refine wpAnyH_take (i := 14) (oi := _) (v := ?_) rfl (by kernel_rfl) (by kernel_rfl) (by kernel_rfl) (fun _ _ _ h => h) (Or.inl ⟨by rfl, ?_⟩) (by assumption) ?_
          rotate_left
          · intro w k0; go_simp; all_goals (with_reducible rfl)
          try simp only [Act.put, List.getElem_toArray, List.getElem_cons_zero, List.getElem_cons_succ, List.setIfInBounds_toArray, List.set_cons_zero, List.set_cons_succ]
          refine wpAnyH_done (by kernel_rfl) ?_ _
          go_wp2_with fail
          go_at_call 159; refine (rdFail_any b D bad _ R5.out).mono ?_; rintro e w6 ⟨rfl, n6, r6⟩
          go_wp2_with fail
          go_ret
          exact ⟨rfl, (NB.of_below B5.out).trans n6, ⟨_, rfl, r6⟩⟩
        · have hX := XY'.out ⟨heq, by omega⟩
          subst hX
          clear XO' XY' heq hE
          refine wpAnyH_take (i := 11) (oi := _) (v := ?_) rfl (by kernel_rfl) (by kernel_rfl) (by kernel_rfl) (fun _ _ _ h => h) (Or.inl ⟨by rfl, ?_⟩) (by assumption) ?_
          rotate_left
          · intro w k0; go_simp; all_goals (with_reducible rfl)
          try simp only [Act.put, List.getElem_toArray, List.getElem_cons_zero, List.getElem_cons_succ, List.setIfInBounds_toArray, List.set_cons_zero, List.set_cons_succ]
          refine wpAnyH_take (i := 12) (oi := _) (v := ?_) rfl (by kernel_rfl) (by kernel_rfl) (by kernel_rfl) (fun _ _ _ h => h) (Or.inl ⟨by rfl, ?_⟩) (by assumption) ?_
          rotate_left
          · intro w k0; go_simp; all_goals (with_reducible rfl)
          try simp only [Act.put, List.getElem_toArray, List.getElem_cons_zero, List.getElem_cons_succ, List.setIfInBounds_toArray, List.set_cons_zero, List.set_cons_succ]
          refine wpAnyH_take (i := 13) (oi := _) (v := ?_) rfl (by kernel_rfl) (by kernel_rfl) (by kernel_rfl) (fun _ _ _ h => h) (Or.inl ⟨by rfl, ?_⟩) (by assumption) ?_
          rotate_left
          · intro w k0; go_simp; all_goals (with_reducible rfl)
          try simp only [Act.put, List.getElem_toArray, List.getElem_cons_zero, List.getElem_cons_succ, List.setIfInBounds_toArray, List.set_cons_zero, List.set_cons_succ]
          refine wpAnyH_take (i := 14) (oi := _) (v := ?_) rfl (by kernel_rfl) (by kernel_rfl) (by kernel_rfl) (fun _ _ _ h => h) (Or.inl ⟨by rfl, ?_⟩) (by assumption) ?_
          rotate_left
          · intro w k0; go_simp; all_goals (with_reducible rfl)
          try simp only [Act.put, List.getElem_toArray, List.getElem_cons_zero, List.getElem_cons_succ, List.setIfInBounds_toArray, List.set_cons_zero, List.set_cons_succ]
          refine wpAnyH_done (by kernel_rfl) ?_ _
          have c0 : w5.cell? ⟨b, 0, none⟩ = some (.string D) := cell_of_heap R5.out 0 rfl
          have f0 : w5.frozen? ⟨b, 0, none⟩ = false := free_of_heap R5.out 0
          have hb5 := heap_lt R5.out
          have kd1 : (k : Int) + 1 ≤ (D.size : Int) := by omega
          have kd0 : (0 : Int) ≤ (k : Int) + 1 := by omega
          have kd2 : ((k : Int) + 1).toNat = k + 1 := by omega
          go_wp2_with fail
          go_ret
          exact ⟨rfl, (NB.of_below B5.out).set 0 _, ⟨_, by rw [bs_from, HDD.out], R5.out.set0⟩⟩
end Go.Proofs.YtfcbcpfnaadpeaaGreatDoor
