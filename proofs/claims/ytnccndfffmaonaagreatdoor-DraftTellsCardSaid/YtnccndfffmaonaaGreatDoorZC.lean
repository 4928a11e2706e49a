/- Parts LxW, LxM, LxK, LxN of this claim, laid one behind the other: walks and the plain laws behind them; each contract states its own conditions. -/
import Derived.Test.YtnccndfffmaonaaGreatDoorZA
import Derived.Test.YtnccndfffmaonaaGreatDoorZB
import Derived.Deep.RegionHeld3
import Derived.Deep.AppendLies
import Derived.Deep.DrawnRows
import Derived.Deep.RegionLaw
import Derived.Deep.QuietTactic
import Derived.BigQuiet
/- Walks of package lex: letter, digit, part, Word. -/
namespace Go.Proofs.YtnccndfffmaonaaGreatDoor
set_option linter.unusedSimpArgs false
open Go.RowKit

def or32 (c : UInt8) : Nat := c.toNat ||| 32
theorem or32_walk (c : UInt8) : bits BinOp.or IntKind.u8 (c.toNat : Int) 32 = ((or32 c : Nat) : Int) := by
  have h : (List.range 256).all (fun n => bits BinOp.or IntKind.u8 (n : Int) 32 == ((or32 (UInt8.ofNat n) : Nat) : Int)) = true := by decide +kernel
  have h2 := List.all_eq_true.1 h c.toNat (List.mem_range.2 c.toNat_lt)
  rw [beq_iff_eq, UInt8.ofNat_toNat] at h2
  exact h2
theorem letter_or (c : UInt8) : Lx.letter c = (c == 95 || (decide (97 ≤ or32 c) && decide (or32 c ≤ 122))) := by
  have h : (List.range 256).all (fun n => Lx.letter (UInt8.ofNat n) == (UInt8.ofNat n == 95 || (decide (97 ≤ or32 (UInt8.ofNat n)) && decide (or32 (UInt8.ofNat n) ≤ 122)))) = true := by decide +kernel
  have h2 := List.all_eq_true.1 h c.toNat (List.mem_range.2 c.toNat_lt)
  rw [beq_iff_eq, UInt8.ofNat_toNat] at h2
  exact h2
theorem letter_any (c : UInt8) (b : Bool) (h : Lx.letter c = b) (w : World) :
    Calls Tryz.prog 72 #[.int .u8 c.toNat] w fun e w' => e = .returned (.bool b) ∧ w = w' := by
  rw [letter_or] at h
  have hw := or32_walk c
  obtain ⟨x, hx⟩ : ∃ x, x = or32 c := ⟨_, rfl⟩
  rw [← hx] at h hw
  clear hx
  by_cases h1 : c = 95
  · have e1 : ((c.toNat : Int) == 95) = true := u8_is (b := 95) h1
    have H := Lib.hid h
    have H1 := Lib.hid h1
    clear h h1
    go_enter Tryz.func72, Tryz.ntmps72
    go_wp2_with fail
    go_ret
    exact ⟨ret_bool (by rw [← H.out, H1.out]; rfl), rfl⟩
  · have e1 : ((c.toNat : Int) == 95) = false := u8_ne (b := 95) h1
    rw [show (c == 95) = false from beq_eq_false_iff_ne.2 h1, Bool.false_or] at h
    have H := Lib.hid h
    clear h h1
    by_cases h2 : (97 : Int) ≤ (x : Int)
    · by_cases h3 : (x : Int) ≤ 122
      · go_enter Tryz.func72, Tryz.ntmps72
        go_wp2_with fail
        go_ret
        exact ⟨ret_bool (by rw [← H.out, decide_eq_true (by omega : 97 ≤ x), decide_eq_true (by omega : x ≤ 122)]; rfl), rfl⟩
      · go_enter Tryz.func72, Tryz.ntmps72
        go_wp2_with fail
        go_ret
        exact ⟨ret_bool (by rw [← H.out, decide_eq_false (by omega : ¬ x ≤ 122), Bool.and_false]), rfl⟩
    · go_enter Tryz.func72, Tryz.ntmps72
      go_wp2_with fail
      go_ret
      exact ⟨ret_bool (by rw [← H.out, decide_eq_false (by omega : ¬ 97 ≤ x), Bool.false_and]), rfl⟩
theorem digit_any (c : UInt8) (b : Bool) (h : Lx.digit c = b) (w : World) :
    Calls Tryz.prog 73 #[.int .u8 c.toNat] w fun e w' => e = .returned (.bool b) ∧ w = w' := by
  unfold Lx.digit at h
  by_cases h1 : 48 ≤ c
  · by_cases h2 : c ≤ 57
    · have e1 : (48 : Int) ≤ (c.toNat : Int) := u8_le h1
      have e2 : (c.toNat : Int) ≤ 57 := u8_le h2
      rw [decide_eq_true h1, decide_eq_true h2] at h
      have H := Lib.hid h
      clear h h1 h2
      go_enter Tryz.func73, Tryz.ntmps73
      go_wp2_with fail
      go_ret
      exact ⟨ret_bool (by rw [← H.out]; rfl), rfl⟩
    · have e1 : (48 : Int) ≤ (c.toNat : Int) := u8_le h1
      have e2 : (57 : Int) < (c.toNat : Int) := u8_lt h2
      have e3 : decide ((c.toNat : Int) ≤ 57) = false := decide_eq_false (by omega)
      rw [decide_eq_false h2, Bool.and_false] at h
      have H := Lib.hid h
      clear h h1 h2
      go_enter Tryz.func73, Tryz.ntmps73
      go_wp2_with fail
      go_ret
      exact ⟨ret_bool H.out, rfl⟩
  · have e1 : (c.toNat : Int) < 48 := u8_lt h1
    rw [decide_eq_false h1, Bool.false_and] at h
    have H := Lib.hid h
    clear h h1
    go_enter Tryz.func73, Tryz.ntmps73
    go_wp2_with fail
    go_ret
    exact ⟨ret_bool H.out, rfl⟩
theorem part_any (c : UInt8) (b : Bool) (h : Lx.part c = b) (w : World) :
    Calls Tryz.prog 88 #[.int .u8 c.toNat] w fun e w' => e = .returned (.bool b) ∧ w = w' := by
  unfold Lx.part at h
  cases h1 : Lx.letter c with
  | true =>
    rw [h1] at h
    have H := Lib.hid h
    have H1 := Lib.hid h1
    clear h h1
    go_enter Tryz.func88, Tryz.ntmps88
    go_wp2_with fail
    go_at_call 72; refine (letter_any c true H1.out _).mono ?_; rintro e w' ⟨rfl, rfl⟩
    go_wp2_with fail
    go_ret
    exact ⟨ret_bool (by rw [← H.out]; rfl), rfl⟩
  | false =>
    rw [h1, Bool.false_or] at h
    have H1 := Lib.hid h1
    clear h1
    cases h2 : Lx.digit c with
    | true =>
      rw [h2] at h
      have H := Lib.hid h
      have H2 := Lib.hid h2
      clear h h2
      go_enter Tryz.func88, Tryz.ntmps88
      go_wp2_with fail
      go_at_call 72; refine (letter_any c false H1.out _).mono ?_; rintro e w' ⟨rfl, rfl⟩
      go_wp2_with fail
      go_at_call 73; refine (digit_any c true H2.out _).mono ?_; rintro e w' ⟨rfl, rfl⟩
      go_wp2_with fail
      go_ret
      exact ⟨ret_bool (by rw [← H.out]; rfl), rfl⟩
    | false =>
      rw [h2, Bool.false_or, show (45 : UInt8) = (45 : UInt8) from rfl] at h
      have H2 := Lib.hid h2
      have e1 : ((c.toNat : Int) == 45) = b := by rw [← h]; exact u8_eq c 45
      have H := Lib.hid h
      clear h h2
      go_enter Tryz.func88, Tryz.ntmps88
      go_wp2_with fail
      go_at_call 72; refine (letter_any c false H1.out _).mono ?_; rintro e w' ⟨rfl, rfl⟩
      go_wp2_with fail
      go_at_call 73; refine (digit_any c false H2.out _).mono ?_; rintro e w' ⟨rfl, rfl⟩
      go_wp2_with fail
      go_ret
      exact ⟨rfl, rfl⟩
theorem all_take (s : ByteArray) (k : Nat) (h : k < s.size) (hp : Lx.part s[k] = false) : (bs s).all Lx.part = false := by
  rw [List.all_eq_false]
  exact ⟨s[k], by rw [← bs_get s k h |> (List.getElem?_eq_some_iff.1 · |>.2)]; exact List.getElem_mem _, by rw [hp]; simp⟩
theorem take_all (s : ByteArray) (k : Nat) (h : k < s.size) (ha : ((bs s).take k).all Lx.part = true) (hp : Lx.part s[k] = true) : ((bs s).take (k + 1)).all Lx.part = true := by
  rw [bs_take s k h, List.all_append, ha]; simp [hp]
theorem bs_head (s : ByteArray) (h : 0 < s.size) : (bs s).headD 0 = s[0] := by
  have := bs_drop s 0 h
  rw [List.drop_zero] at this
  rw [this]; rfl
set_option maxHeartbeats 1000000 in
theorem Word_any (s : ByteArray) (b : Bool) (hb : Lx.word (bs s) = b) (w : World) (hs : s.size ≤ 140737488355328) :
    Calls Tryz.prog 60 #[.string s] w fun e w' => e = .returned (.bool b) ∧ w = w' := by
  have HB := Lib.hid hb
  clear hb
  go_enter Tryz.func60, Tryz.ntmps60
  go_wp2_with fail
  go_loop [6] (fun i => ∃ k : Nat, k ≤ s.size ∧ Hid (((bs s).take k).all Lx.part = true) ∧ i = .int .i64 k) (fun i => s.size - (intOf i).toNat)
  case atStart => exact ⟨0, by omega, Lib.hid (by rfl), rfl⟩
  case round =>
    obtain ⟨k, hk, HA, rfl⟩ := hrel
    by_cases hlt : k < s.size
    · cases hp : Lx.part s[k] with
      | true =>
        have HN := Lib.hid (take_all s k hlt HA.out hp)
        have HP := Lib.hid hp
        clear hp HA
        go_wp2_with fail
        go_at_call 88; refine (part_any s[k] true HP.out _).mono ?_; rintro e w' ⟨rfl, rfl⟩
        go_wp2_with fail
        go_round
        case rel => exact ⟨k + 1, by omega, HN, by go_num⟩
        case measure => simp [intOf]; omega
      | false =>
        have HN := Lib.hid (all_take s k hlt hp)
        have HP := Lib.hid hp
        clear hp HA
        go_wp2_with fail
        go_at_call 88; refine (part_any s[k] false HP.out _).mono ?_; rintro e w' ⟨rfl, rfl⟩
        go_wp2_with fail
        go_ret
        exact ⟨ret_bool (by rw [← HB.out, Lx.word, HN.out]; rfl), rfl⟩
    · obtain rfl : k = s.size := by omega
      have HA2 : Hid ((bs s).all Lx.part = true) := Lib.hid (by have := HA.out; rwa [← bs_len, List.take_length] at this)
      clear HA
      by_cases h1 : 1 ≤ s.size
      · by_cases h2 : s.size ≤ 20
        · have hpos : 0 < s.size := by omega
          cases hl : Lx.letter s[0] with
          | true =>
            have HL := Lib.hid hl
            have HR : Hid (b = true) := Lib.hid (by rw [← HB.out, Lx.word, HA2.out, bs_head s hpos, hl, bs_len, decide_eq_true h1, decide_eq_true h2]; rfl)
            clear hl
            go_wp2_with fail
            go_at_call 72; refine (letter_any s[0] true HL.out _).mono ?_; rintro e w' ⟨rfl, rfl⟩
            go_wp2_with fail
            go_ret
            exact ⟨ret_bool (by rw [HR.out]), rfl⟩
          | false =>
            have HL := Lib.hid hl
            have HR : Hid (b = false) := Lib.hid (by rw [← HB.out, Lx.word, bs_head s hpos, hl, Bool.and_false])
            clear hl
            go_wp2_with fail
            go_at_call 72; refine (letter_any s[0] false HL.out _).mono ?_; rintro e w' ⟨rfl, rfl⟩
            go_wp2_with fail
            go_ret
            exact ⟨ret_bool (by rw [HR.out]), rfl⟩
        · have HR : Hid (b = false) := Lib.hid (by rw [← HB.out, Lx.word, bs_len, decide_eq_false h2]; simp)
          go_wp2_with fail
          go_ret
          exact ⟨ret_bool (by rw [HR.out]), rfl⟩
      · have HR : Hid (b = false) := Lib.hid (by rw [← HB.out, Lx.word, bs_len, decide_eq_false h1]; simp)
        go_wp2_with fail
        go_ret
        exact ⟨ret_bool (by rw [HR.out]), rfl⟩
end Go.Proofs.YtnccndfffmaonaaGreatDoor
/- The scanner of package lex: what its block holds; take. -/
namespace Go.Proofs.YtnccndfffmaonaaGreatDoor
set_option linter.unusedSimpArgs false
open Go.RowKit

def tokC (t : Lx.Tok) : List Value := [.int .i64 t.kind, .string ⟨t.text.toArray⟩, .int .i64 t.n, .int .i64 t.line]
def toksC (ts : List Lx.Tok) : List Value := ts.flatMap tokC
theorem toksC_len (ts : List Lx.Tok) : (toksC ts).length = ts.length * 4 := by
  induction ts with
  | nil => rfl
  | cons t ts ih =>
    show (tokC t ++ toksC ts).length = _
    rw [List.length_append, ih]; simp [tokC]; omega
theorem toksC_append (a b : List Lx.Tok) : toksC (a ++ b) = toksC a ++ toksC b := by simp [toksC]
/-- Block b is a scanner: the source, the place, the line, the tokens so far. -/
def Scn (b : Nat) (src : ByteArray) (k ln : Nat) (ts : List Lx.Tok) (w : World) : Prop :=
  ∃ v, w.heap[b]? = some (.cells #[.string src, .int .i64 k, .int .i64 ln, v] 80 (0, 0)) ∧ w.ownsRow b 42 4 v ts.length (toksC ts)
theorem own_ne {w : World} {B : Nat} {e T : TypeId} {sz : Nat} {v : Value} {n : Nat} {xs : List Value} {b : Nat} {cs : Array Value} {fr : Nat × Nat} (hown : w.ownsRow B e sz v n xs) (hb : w.heap[b]? = some (.cells cs T fr)) (hTe : T ≠ e) : v.ownBlock ≠ some b := by
  rcases hown.2 with ⟨rfl, _⟩ | ⟨g, cap, cur, rfl, _, hg, _⟩
  · simp [Value.ownBlock]
  · intro h
    simp only [Value.ownBlock, Option.some.injEq] at h
    subst h
    rw [hg] at hb
    simp only [Option.some.injEq, Obj.cells.injEq] at hb
    exact hTe hb.2.1.symm
theorem Scn.lt {b : Nat} {src : ByteArray} {k ln : Nat} {ts : List Lx.Tok} {w : World} (h : Scn b src k ln ts w) : b < w.heap.size := by
  obtain ⟨v, hb, _⟩ := h
  rcases Nat.lt_or_ge b w.heap.size with h' | h'
  · exact h'
  · simp [Array.getElem?_eq_none h'] at hb
theorem Scn.setAt {b : Nat} {src : ByteArray} {k ln : Nat} {ts : List Lx.Tok} {w : World} (h : Scn b src k ln ts w) (k' : Nat) : Scn b src k' ln ts (w.setCell ⟨b, 1, none⟩ (.int .i64 k')) := by
  obtain ⟨v, hb, ho⟩ := h
  refine ⟨v, by simp [World.setCell, Array.getElem?_modify, hb], ?_⟩
  exact ho.kept (row := some b) ⟨rfl, rfl, rfl, by simp [World.setCell], fun k _ hk => Below.heap_setCell _ _ _ _ (fun e => hk (by simp [e]))⟩ (Or.inr (own_ne ho hb (by decide)))
theorem Scn.setLine {b : Nat} {src : ByteArray} {k ln : Nat} {ts : List Lx.Tok} {w : World} (h : Scn b src k ln ts w) (l' : Nat) : Scn b src k l' ts (w.setCell ⟨b, 2, none⟩ (.int .i64 l')) := by
  obtain ⟨v, hb, ho⟩ := h
  refine ⟨v, by simp [World.setCell, Array.getElem?_modify, hb], ?_⟩
  exact ho.kept (row := some b) ⟨rfl, rfl, rfl, by simp [World.setCell], fun k _ hk => Below.heap_setCell _ _ _ _ (fun e => hk (by simp [e]))⟩ (Or.inr (own_ne ho hb (by decide)))
theorem Scn.drewN {b : Nat} {src : ByteArray} {k ln : Nat} {ts : List Lx.Tok} {w : World} (h : Scn b src k ln ts w) (n : Nat) : Scn b src k ln ts (w.drewN n) := h
theorem Scn.drew {b : Nat} {src : ByteArray} {k ln : Nat} {ts : List Lx.Tok} {w : World} (h : Scn b src k ln ts w) : Scn b src k ln ts w.drew := h
theorem Scn.keep {b : Nat} {src : ByteArray} {k ln : Nat} {ts : List Lx.Tok} {w w' : World} (h : Scn b src k ln ts w) (hb : Below w.heap.size w w') : Scn b src k ln ts w' := by
  have hlt := h.lt
  obtain ⟨v, hv, ho⟩ := h
  exact ⟨v, (hb.block b hlt).trans hv, ho.kept (row := none) ⟨hb.os, hb.tape, hb.output, hb.size, fun k hk _ => hb.block k hk⟩ (Classical.em _)⟩
theorem Scn.c0 {b : Nat} {src : ByteArray} {k ln : Nat} {ts : List Lx.Tok} {w : World} (h : Scn b src k ln ts w) : w.cell? ⟨b, 0, none⟩ = some (.string src) := by
  obtain ⟨v, hb, ho⟩ := h; simp [World.cell?, hb]
theorem Scn.c1 {b : Nat} {src : ByteArray} {k ln : Nat} {ts : List Lx.Tok} {w : World} (h : Scn b src k ln ts w) : w.cell? ⟨b, 1, none⟩ = some (.int .i64 k) := by
  obtain ⟨v, hb, ho⟩ := h; simp [World.cell?, hb]
theorem Scn.c2 {b : Nat} {src : ByteArray} {k ln : Nat} {ts : List Lx.Tok} {w : World} (h : Scn b src k ln ts w) : w.cell? ⟨b, 2, none⟩ = some (.int .i64 ln) := by
  obtain ⟨v, hb, ho⟩ := h; simp [World.cell?, hb]
theorem Scn.fz {b : Nat} {src : ByteArray} {k ln : Nat} {ts : List Lx.Tok} {w : World} (h : Scn b src k ln ts w) (o : Nat) : w.frozen? ⟨b, o, none⟩ = false := by
  obtain ⟨v, hb, ho⟩ := h; simp [World.frozen?, hb]
/-- Where the scanner stands. -/
def placeOf (b : Nat) (w : World) : Nat := (intOf ((w.cell? ⟨b, 1, none⟩).getD undef)).toNat
theorem Scn.place {b : Nat} {src : ByteArray} {k ln : Nat} {ts : List Lx.Tok} {w : World} (h : Scn b src k ln ts w) : placeOf b w = k := by
  rw [placeOf, h.c1]; simp [intOf]

theorem skip_ix : ∀ (l : List UInt8) (m : Nat), (Lib.indexByte l 10 = m ∨ (Lib.indexByte l 10 = -1 ∧ m = l.length)) → Lx.skip true l = Lx.skip false (l.drop m) ∧ m ≤ l.length := by
  intro l
  induction l with
  | nil =>
    intro m h
    rcases h with h | ⟨_, h⟩
    · exfalso; rw [Lib.indexByte] at h; omega
    · subst h; exact ⟨rfl, Nat.le_refl _⟩
  | cons c l ih =>
    intro m h
    rw [Lib.indexByte] at h
    by_cases hc : c = 10
    · subst hc
      rw [if_pos (by rfl)] at h
      rcases h with h | ⟨h, _⟩
      · obtain rfl : m = 0 := by omega
        rw [Lx.skip, if_pos rfl, List.drop_zero, Lx.skip, if_neg (by decide), if_neg (by decide)]
        exact ⟨rfl, by simp⟩
      · omega
    · rw [if_neg (by simpa using hc)] at h
      rw [Lx.skip, if_neg hc]
      have hge := Lib.indexByte_ge l 10
      by_cases hm1 : Lib.indexByte l 10 = -1
      · rw [if_pos (by rw [hm1]; rfl)] at h
        rcases h with h | ⟨_, h⟩
        · omega
        · subst h
          have := ih l.length (.inr ⟨hm1, rfl⟩)
          rw [this.1, List.length_cons, List.drop_succ_cons]
          exact ⟨rfl, Nat.le_refl _⟩
      · rw [if_neg (by simpa using hm1)] at h
        rcases h with h | ⟨h, _⟩
        · have := ih (m - 1) (.inl (by omega))
          obtain ⟨j, rfl⟩ : ∃ j, m = j + 1 := ⟨m - 1, by omega⟩
          rw [Nat.add_sub_cancel] at this
          rw [this.1, List.drop_succ_cons, List.length_cons]
          exact ⟨rfl, by omega⟩
        · omega
end Go.Proofs.YtnccndfffmaonaaGreatDoor
/- Walks of package lex: take. -/
namespace Go.Proofs.YtnccndfffmaonaaGreatDoor
set_option linter.unusedSimpArgs false
open Go.RowKit

theorem Tryz.tokInfo : (Tryz.prog.info? 42).map (fun i => (i.zero, i.size, i.bytes)) = some (some (.agg #[.int .i64 0, .string ⟨#[]⟩, .int .i64 0, .int .i64 0]), 4, 40) := by kernel_rfl
theorem own_new {w : World} {B : Nat} {e : TypeId} {sz : Nat} {v : Value} {n : Nat} {xs : List Value} (hown : w.ownsRow B e sz v n xs) : some w.heap.size ≠ v.ownBlock := by
  rcases hown.2 with ⟨rfl, _⟩ | ⟨g, cap, cur, rfl, _, hg, _⟩
  · simp [Value.ownBlock]
  · intro h
    simp only [Value.ownBlock, Option.some.injEq] at h
    subst h
    simp at hg
theorem fz2 {w : World} {b o : Nat} (h : w.frozen? ⟨b, o, none⟩ = false) (hlt : b < w.heap.size) (A B : Obj) : ((w.alloc A).alloc B).drew.frozen? ⟨b, o, none⟩ = false :=
  ((((Below.refl _ w).alloc (Nat.le_refl _) A).alloc (by simp) B).drew.frozen (p := ⟨b, o, none⟩) hlt).trans h
theorem cl2 {w : World} {b o : Nat} {v : Value} (h : w.cell? ⟨b, o, none⟩ = some v) (hlt : b < w.heap.size) (A B : Obj) : ((w.alloc A).alloc B).drew.cell? ⟨b, o, none⟩ = some v :=
  ((((Below.refl _ w).alloc (Nat.le_refl _) A).alloc (by simp) B).drew.cell (p := ⟨b, o, none⟩) hlt).trans h
theorem heap2 (w : World) (A B : Obj) : ((w.alloc A).alloc B).drew.heap[w.heap.size + 1]? = some B := by
  have := heap_alloc_new (w.alloc A) B
  rwa [show (w.alloc A).heap.size = w.heap.size + 1 by simp] at this
theorem take_end {b : Nat} {src : ByteArray} {k ln e2 : Nat} {ts : List Lx.Tok} {t : Lx.Tok} {v v' : Value} {w w1 : World} {A B : Obj}
    (hb : w.heap[b]? = some (.cells #[.string src, .int .i64 k, .int .i64 ln, v] 80 (0, 0))) (hown : w1.ownsRow b 42 4 v' (ts.length + 1) (toksC (ts ++ [t])))
    (ho : w.ownsRow b 42 4 v ts.length (toksC ts)) (hgrow : ((w.alloc A).alloc B).drew.grownBy w1 v.ownBlock) (hlt : b < w.heap.size) (ne : v.ownBlock ≠ some b) :
    Scn b src e2 ln (ts ++ [t]) ((w1.setCell ⟨b, 3, none⟩ v').setCell ⟨b, 1, none⟩ (.int .i64 e2)) ∧ Below b w ((w1.setCell ⟨b, 3, none⟩ v').setCell ⟨b, 1, none⟩ (.int .i64 e2)) := by
  have hB : Below w.heap.size w ((w.alloc A).alloc B).drew := (((Below.refl _ w).alloc (Nat.le_refl _) A).alloc (by simp) B).drew
  have hb1 : w1.heap[b]? = some (.cells #[.string src, .int .i64 k, .int .i64 ln, v] 80 (0, 0)) := by
    rw [hgrow.block b (Nat.lt_of_lt_of_le hlt hB.size) (fun e => ne e.symm), hB.block b hlt]; exact hb
  have ne' := own_ne hown hb1 (by decide)
  refine ⟨⟨v', ?_, ?_⟩, ?_⟩
  · simp [World.setCell, Array.getElem?_modify, hb1]
  · rw [List.length_append]
    refine World.ownsRow.kept (row := some b) (w := w1) hown ⟨rfl, rfl, rfl, by simp [World.setCell], fun j _ hj => ?_⟩ (Or.inr ne')
    rw [Below.heap_setCell _ _ _ _ (fun e => hj (by simp [e])), Below.heap_setCell _ _ _ _ (fun e => hj (by simp [e]))]
  · refine (((hB.mono (Nat.le_of_lt hlt)).grown hgrow (Nat.le_trans (Nat.le_of_lt hlt) hB.size) ?_).setCell (p := ⟨b, 3, none⟩) (Nat.le_refl _) _).setCell (p := ⟨b, 1, none⟩) (Nat.le_refl _) _
    exact fun j hj => (ho.lt j hj).1
set_option maxRecDepth 100000 in
set_option maxHeartbeats 3200000 in
theorem take_any (b : Nat) (src : ByteArray) (k ln : Nat) (ts : List Lx.Tok) (kd : Nat) (tx : ByteArray) (n l0 : Int) (e2 : Nat) (kk ee : Int) (hkk : kk = (kd : Int)) (hee : ee = (e2 : Int)) (w : World) (h : Scn b src k ln ts w) (hl : ts.length ≤ 1000000000) :
    Calls Tryz.prog 93 #[.pointer (some ⟨b, 0, none⟩), .agg #[.int .i64 kk, .string tx, .int .i64 n, .int .i64 l0], .int .i64 ee] w fun e w' => e = .returned (.tuple #[]) ∧ Scn b src e2 ln (ts ++ [⟨kd, bs tx, n, ln⟩]) w' ∧ Below b w w' := by
  subst hkk hee
  obtain ⟨i0, hi0, hz0, hz1, hz2⟩ := info_parts Tryz.tokInfo
  have hlt := h.lt
  have c2 := h.c2
  have c1 := h.c1
  obtain ⟨v, hb, ho⟩ := h
  have c3 : w.cell? ⟨b, 3, none⟩ = some v := by simp [World.cell?, hb]
  have fz : ∀ o, w.frozen? ⟨b, o, none⟩ = false := by intro o; simp [World.frozen?, hb]
  have f1 := fz 1
  have f3 := fz 3
  have ne := own_ne ho hb (by decide)
  have HO := Lib.hid ho
  have HBB := Lib.hid hb
  clear ho hb fz
  go_enter Tryz.func93, Tryz.ntmps93
  go_wp2_with fail
  go_region_law ((refine step_append_lies _ (by rfl) _ _ _ (by rfl) b 42 i0 _ 4 40 Tryz.underlying38 hi0 hz0 hz1 hz2 rfl (by omega) v ts.length (toksC ts) (by rfl) (((HO.out.alloc _).alloc _).drew) ⟨w.heap.size + 1, 0, none⟩ 1 1 [.int .i64 kd, .string tx, .int .i64 n, .int .i64 ln] (by rfl) (by rfl) (World.news_of_block (cs := #[.int .i64 kd, .string tx, .int .i64 n, .int .i64 ln]) (t := 42) (fr := (0, 0)) (heap2 w _ _)) (by simp [Value.oneCell']) (by omega) (by unfold maxLen; omega) (by omega) (by simp; omega) (w.heap.size + 2) (by simp) ?_; intro g cap w1 hown1 hgrow hat hlt1; have c3' : w1.cell? ⟨b, 3, none⟩ = some v := (hgrow.cell_far ⟨b, 3, none⟩ (by simp; omega) (Ne.symm ne)).trans (cl2 c3 hlt _ _); have c1' : w1.cell? ⟨b, 1, none⟩ = some (.int .i64 k) := (hgrow.cell_far ⟨b, 1, none⟩ (by simp; omega) (Ne.symm ne)).trans (cl2 c1 hlt _ _); have f3' : w1.frozen? ⟨b, 3, none⟩ = false := (hgrow.frozen_far ⟨b, 3, none⟩ (by simp; omega) (Ne.symm ne)).trans (fz2 f3 hlt _ _); have f1' : w1.frozen? ⟨b, 1, none⟩ = false := (hgrow.frozen_far ⟨b, 1, none⟩ (by simp; omega) (Ne.symm ne)).trans (fz2 f1 hlt _ _)))
  all_goals
    go_end0
    exact ⟨rfl, take_end HBB.out (by simp only [toksC_append]; exact hown1) HO.out hgrow hlt ne⟩

theorem end_any (b : Nat) (src : ByteArray) (k ln : Nat) (ts : List Lx.Tok) (w : World) (h : Scn b src k ln ts w) (hl : ts.length ≤ 1000000000) :
    Calls Tryz.prog 71 #[.pointer (some ⟨b, 0, none⟩)] w fun e w' => e = .returned (.int .i64 0) ∧ Scn b src k ln (ts ++ [⟨4, [], 0, ln⟩]) w' ∧ Below b w w' := by
  have c1 := h.c1
  have H := Lib.hid h
  clear h
  go_enter Tryz.func71, Tryz.ntmps71
  go_wp2_with fail
  go_at_call 93; refine (take_any b src k ln ts 4 ⟨#[]⟩ 0 0 k _ _ rfl rfl _ H.out hl).mono ?_; rintro e w' ⟨rfl, h1, h2⟩
  have H1 := Lib.hid h1
  clear h1
  go_wp2_with fail
  go_ret
  exact ⟨rfl, H1.out, h2⟩
theorem feed_any (b : Nat) (src : ByteArray) (k ln : Nat) (ts : List Lx.Tok) (w : World) (h : Scn b src k ln ts w) (hl : ts.length ≤ 1000000000) (hk : k ≤ 1000000000) (hln : ln ≤ 1000000000) :
    Calls Tryz.prog 76 #[.pointer (some ⟨b, 0, none⟩)] w fun e w' => e = .returned (.int .i64 0) ∧ Scn b src (k + 1) (ln + 1) (ts ++ [⟨3, [], 0, ln⟩]) w' ∧ Below b w w' := by
  have c1 := h.c1
  have H := Lib.hid h
  clear h
  go_enter Tryz.func76, Tryz.ntmps76
  go_wp2_with fail
  go_at_call 93; refine (take_any b src k ln ts 3 ⟨#[]⟩ 0 0 (k + 1) _ _ rfl (by omega) _ H.out hl).mono ?_; rintro e w' ⟨rfl, h1, h2⟩
  have d2 := h1.c2
  have f2 := h1.fz 2
  have H1 := Lib.hid h1
  clear h1
  go_wp2_with fail
  go_ret
  exact ⟨rfl, by have := H1.out.setLine (ln + 1); rw [show ((ln + 1 : Nat) : Int) = (ln : Int) + 1 by omega] at this; exact this, h2.setCell (p := ⟨b, 2, none⟩) (Nat.le_refl _) _⟩
theorem wrong_any (b : Nat) (w : World) :
    Calls Tryz.prog 77 #[.pointer (some ⟨b, 0, none⟩)] w fun e w' => e = .returned (.int .i64 11) ∧ w = w' := by
  go_enter Tryz.func77, Tryz.ntmps77
  go_wp2_with fail
  go_ret
  exact ⟨rfl, rfl⟩
end Go.Proofs.YtnccndfffmaonaaGreatDoor
/- Walks of package lex: skip. -/
namespace Go.Proofs.YtnccndfffmaonaaGreatDoor
set_option linter.unusedSimpArgs false
open Go.RowKit

/-- Worlds that differ in their draws alone. -/
def SameMem (x w' : World) : Prop := w'.os = x.os ∧ w'.tape = x.tape ∧ w'.output = x.output ∧ w'.heap = x.heap
theorem Scn.same {b : Nat} {src : ByteArray} {k ln : Nat} {ts : List Lx.Tok} {x w' : World} (h : Scn b src k ln ts x) (e : SameMem x w') : Scn b src k ln ts w' := by
  obtain ⟨v, hb, ho⟩ := h
  exact ⟨v, by rw [e.2.2.2]; exact hb, ho.kept (row := none) ⟨e.1, e.2.1, e.2.2.1, by rw [e.2.2.2]; exact Nat.le_refl _, fun k hk _ => by rw [e.2.2.2]⟩ (Classical.em _)⟩
theorem below_same {B : Nat} {a x w' : World} (h : Below B a x) (e : SameMem x w') : Below B a w' :=
  ⟨e.1.trans h.os, e.2.1.trans h.tape, e.2.2.1.trans h.output, by rw [e.2.2.2]; exact h.size, fun k hk => by rw [e.2.2.2]; exact h.block k hk⟩
theorem Scn.atI {b : Nat} {src : ByteArray} {k ln : Nat} {ts : List Lx.Tok} {w : World} (h : Scn b src k ln ts w) (k' : Nat) (z : Int) (hz : z = (k' : Int)) : Scn b src k' ln ts (w.setCell ⟨b, 1, none⟩ (.int .i64 z)) := by
  subst hz; exact h.setAt k'
theorem skip_round {b : Nat} {src : ByteArray} {k k' ln : Nat} {ts : List Lx.Tok} {w w' : World} (h : Scn b src k ln ts w) (h' : Scn b src k' ln ts w') (hk : k < k') (hs : k < src.size) : src.size - placeOf b w' < src.size - placeOf b w := by
  rw [h.place, h'.place]; omega
theorem skip_at (src : ByteArray) (k : Nat) (hlt : k < src.size) (h : src[k] = 35) (m : Nat) (hm : Lib.indexByte ((bs src).drop k) 10 = m ∨ (Lib.indexByte ((bs src).drop k) 10 = -1 ∧ m = ((bs src).drop k).length)) :
    Lx.skip false ((bs src).drop k) = Lx.skip false ((bs src).drop (k + m)) ∧ 0 < m ∧ k + m ≤ src.size := by
  have h1 := skip_ix _ m hm
  rw [List.drop_drop, List.length_drop, bs_len] at h1
  refine ⟨?_, ?_, by omega⟩
  · rw [← h1.1, bs_drop src k hlt, h]
    have e1 : Lx.skip false (35 :: (bs src).drop (k + 1)) = Lx.skip true ((bs src).drop (k + 1)) := by rw [Lx.skip, if_neg (by decide), if_pos rfl]
    have e2 : Lx.skip true (35 :: (bs src).drop (k + 1)) = Lx.skip true ((bs src).drop (k + 1)) := by rw [Lx.skip, if_neg (by decide)]
    rw [e1, e2]
  · rcases Nat.eq_zero_or_pos m with hz | hz
    · subst hz
      rw [bs_drop src k hlt, h, Lib.indexByte, if_neg (by decide)] at hm
      have hge := Lib.indexByte_ge ((bs src).drop (k + 1)) 10
      rcases hm with hm | ⟨_, hm⟩
      · split at hm
        · omega
        · rename_i h2; have : Lib.indexByte ((bs src).drop (k + 1)) 10 ≠ -1 := by simpa using h2
          omega
      · simp at hm
    · exact hz
theorem skip_stop (src : ByteArray) (k : Nat) (hlt : k < src.size) (h : Lx.white src[k] = false) (h2 : src[k] ≠ 35) : Lx.skip false ((bs src).drop k) = (bs src).drop k := by
  rw [bs_drop src k hlt, Lx.skip, if_neg (by rw [h]; simp), if_neg h2]
theorem quiet_add_same {P : Program} {f : FuncId} {args : Array Value} {w : World} {a n : Nat} {v : Value}
    (h : Calls P f args (w.drewN (a + n)) fun e w' => e = .returned v ∧ w' = w.drewN (a + n)) :
    Calls P f args (w.drewN (a + n)) fun e w'' => e = .returned v ∧ ∃ m, w'' = w.drewN (a + m) :=
  h.mono fun _ _ ⟨he, hm⟩ => ⟨he, n, hm⟩
def SkipPost (b : Nat) (src : ByteArray) (ln : Nat) (ts : List Lx.Tok) (G : List UInt8) (w : World) (e : Ending) (w' : World) : Prop :=
  e = .returned (.tuple #[]) ∧ ∃ k, k ≤ src.size ∧ G = (bs src).drop k ∧ Scn b src k ln ts w' ∧ Below b w w'

set_option maxRecDepth 100000 in
set_option maxHeartbeats 8000000 in
theorem skip_any (b : Nat) (src : ByteArray) (k0 ln : Nat) (ts : List Lx.Tok) (w : World) (h : Scn b src k0 ln ts w) (hk0 : k0 ≤ src.size) (hs : src.size ≤ 1000000000) :
    Calls Tryz.prog 46 #[.pointer (some ⟨b, 0, none⟩)] w (SkipPost b src ln ts (Lx.skip false ((bs src).drop k0)) w) := by
  obtain ⟨G, hG⟩ : ∃ G, G = Lx.skip false ((bs src).drop k0) := ⟨_, rfl⟩
  rw [← hG]
  have HG := Lib.hid hG
  have H := Lib.hid h
  clear h hG
  go_enter Tryz.func46, Tryz.ntmps46
  go_wp2; go_step3; go_wp2; go_step3; go_wp2
  go_loopw [] (fun wr => ∃ k : Nat, k ≤ src.size ∧ Hid (G = Lx.skip false ((bs src).drop k)) ∧ Hid (Scn b src k ln ts wr) ∧ Hid (Below b w wr)) (fun wr => src.size - placeOf b wr)
  case atStart => exact ⟨k0, hk0, HG, H, Lib.hid (Below.refl _ _)⟩
  case round =>
    obtain ⟨k, hk, HK, HS, HB⟩ := hrel
    clear HG H
    have c0 := HS.out.c0
    have c1 := HS.out.c1
    have f1 := HS.out.fz 1
    by_cases hlt : k < src.size
    · have hkI : (k : Int) < (src.size : Int) := by omega
      have hk0' : (0 : Int) ≤ (k : Int) := by omega
      have hn : (k : Int).toNat = k := by omega
      by_cases hw32 : src[k] = 32
      · have e32 : ((src[k].toNat : Int) == 32) = true := u8_is (b := 32) hw32
        have HN : Hid (G = Lx.skip false ((bs src).drop (k + 1))) := Lib.hid (by rw [HK.out, bs_drop src k hlt, Lx.skip, if_pos (by rw [hw32]; rfl)])
        clear HK hw32
        go_wp2_with fail
        go_quiet (fail)
        go_wp2_with fail
        go_quiet (fail)
        go_wp2_with fail
        go_roundw
        case rel => exact ⟨k + 1, by omega, HN, Lib.hid ((HS.out.atI (k + 1) _ (by omega)).same ⟨rfl, rfl, rfl, rfl⟩), Lib.hid (below_same (HB.out.setCell (p := ⟨b, 1, none⟩) (Nat.le_refl _) _) ⟨rfl, rfl, rfl, rfl⟩)⟩
        case measure => exact skip_round HS.out ((HS.out.atI (k + 1) _ (by omega)).same ⟨rfl, rfl, rfl, rfl⟩) (by omega) hlt
      · have e32 : ((src[k].toNat : Int) == 32) = false := u8_ne (b := 32) hw32
        by_cases hw9 : src[k] = 9
        · have e9 : ((src[k].toNat : Int) == 9) = true := u8_is (b := 9) hw9
          have HN : Hid (G = Lx.skip false ((bs src).drop (k + 1))) := Lib.hid (by rw [HK.out, bs_drop src k hlt, Lx.skip, if_pos (by rw [hw9]; rfl)])
          clear HK hw32 hw9
          go_wp2_with fail
          go_quiet (fail)
          go_wp2_with fail
          go_quiet (fail)
          go_wp2_with fail
          go_roundw
          case rel => exact ⟨k + 1, by omega, HN, Lib.hid ((HS.out.atI (k + 1) _ (by omega)).same ⟨rfl, rfl, rfl, rfl⟩), Lib.hid (below_same (HB.out.setCell (p := ⟨b, 1, none⟩) (Nat.le_refl _) _) ⟨rfl, rfl, rfl, rfl⟩)⟩
          case measure => exact skip_round HS.out ((HS.out.atI (k + 1) _ (by omega)).same ⟨rfl, rfl, rfl, rfl⟩) (by omega) hlt
        · have e9 : ((src[k].toNat : Int) == 9) = false := u8_ne (b := 9) hw9
          by_cases hw13 : src[k] = 13
          · have e13 : ((src[k].toNat : Int) == 13) = true := u8_is (b := 13) hw13
            have HN : Hid (G = Lx.skip false ((bs src).drop (k + 1))) := Lib.hid (by rw [HK.out, bs_drop src k hlt, Lx.skip, if_pos (by rw [hw13]; rfl)])
            clear HK hw32 hw9 hw13
            go_wp2_with fail
            go_quiet (fail)
            go_wp2_with fail
            go_quiet (fail)
            go_wp2_with fail
            go_roundw
            case rel => exact ⟨k + 1, by omega, HN, Lib.hid ((HS.out.atI (k + 1) _ (by omega)).same ⟨rfl, rfl, rfl, rfl⟩), Lib.hid (below_same (HB.out.setCell (p := ⟨b, 1, none⟩) (Nat.le_refl _) _) ⟨rfl, rfl, rfl, rfl⟩)⟩
            case measure => exact skip_round HS.out ((HS.out.atI (k + 1) _ (by omega)).same ⟨rfl, rfl, rfl, rfl⟩) (by omega) hlt
          · have e13 : ((src[k].toNat : Int) == 13) = false := u8_ne (b := 13) hw13
            by_cases hw35 : src[k] = 35
            · have e35 : ((src[k].toNat : Int) == 35) = true := u8_is (b := 35) hw35
              have hC := fun w => Tryz.strings_IndexByte (src.extract k src.size) 10 w
              rw [show (src.extract k src.size).data.toList = (bs src).drop k from Lib.extract_to_end src k, show (10 : Int).toNat.toUInt8 = 10 from rfl] at hC
              have hge := Lib.indexByte_ge ((bs src).drop k) 10
              obtain ⟨q, hq⟩ : ∃ q, q = Lib.indexByte ((bs src).drop k) 10 := ⟨_, rfl⟩
              rw [← hq] at hC hge
              have HC := Lib.hid hC
              clear hC
              by_cases hq0 : q < 0
              · obtain rfl : q = -1 := by omega
                have hm := skip_at src k hlt hw35 (src.size - k) (.inr ⟨hq.symm, by rw [List.length_drop, bs_len]⟩)
                rw [show k + (src.size - k) = src.size by omega] at hm
                have HN : Hid (G = Lx.skip false ((bs src).drop src.size)) := Lib.hid (by rw [HK.out]; exact hm.1)
                clear HK hm hq hge hw32 hw9 hw13 hw35
                go_wp2_with fail
                go_quiet (fail)
                go_wp2_with fail
                go_quiet (fail)
                go_wp2_with fail
                go_quiet ((go_at_call 70; exact quiet_add_same (HC.out _)))
                go_wp2_with fail
                go_quiet (fail)
                go_wp2_with fail
                go_roundw
                case rel => exact ⟨src.size, by omega, HN, Lib.hid ((HS.out.atI (src.size) _ (by omega)).same ⟨rfl, rfl, rfl, rfl⟩), Lib.hid (below_same (HB.out.setCell (p := ⟨b, 1, none⟩) (Nat.le_refl _) _) ⟨rfl, rfl, rfl, rfl⟩)⟩
                case measure => exact skip_round HS.out ((HS.out.atI (src.size) _ (by omega)).same ⟨rfl, rfl, rfl, rfl⟩) (by omega) hlt
              · have hm := skip_at src k hlt hw35 q.toNat (.inl (by rw [← hq]; omega))
                have HN : Hid (G = Lx.skip false ((bs src).drop (k + q.toNat))) := Lib.hid (by rw [HK.out]; exact hm.1)
                obtain ⟨-, hm1, hm2⟩ := hm
                have hq1 : (k : Int) + q ≤ (src.size : Int) := by omega
                have hq2 : 0 < q := by omega
                clear HK hq hge hw32 hw9 hw13 hw35 hm1 hm2
                go_wp2_with fail
                go_quiet (fail)
                go_wp2_with fail
                go_quiet (fail)
                go_wp2_with fail
                go_quiet ((go_at_call 70; exact quiet_add_same (HC.out _)))
                go_wp2_with fail
                go_roundw
                case rel => exact ⟨k + q.toNat, by omega, HN, Lib.hid ((HS.out.atI (k + q.toNat) _ (by omega)).same ⟨rfl, rfl, rfl, rfl⟩), Lib.hid (below_same (HB.out.setCell (p := ⟨b, 1, none⟩) (Nat.le_refl _) _) ⟨rfl, rfl, rfl, rfl⟩)⟩
                case measure => exact skip_round HS.out ((HS.out.atI (k + q.toNat) _ (by omega)).same ⟨rfl, rfl, rfl, rfl⟩) (by omega) hlt
            · have e35 : ((src[k].toNat : Int) == 35) = false := u8_ne (b := 35) hw35
              have HN : Hid (G = (bs src).drop k) := Lib.hid (by rw [HK.out]; exact skip_stop src k hlt (by simp [Lx.white, hw32, hw9, hw13]) hw35)
              clear HK hw32 hw9 hw13 hw35
              go_wp2_with fail
              go_quiet (fail)
              go_wp2_with fail
              go_quiet (fail)
              go_wp2_with fail
              go_end0
              exact ⟨rfl, _, hk, HN.out, HS.out.same ⟨rfl, rfl, rfl, rfl⟩, below_same HB.out ⟨rfl, rfl, rfl, rfl⟩⟩
    · obtain rfl : k = src.size := by omega
      go_wp2_with fail
      go_quiet (fail)
      go_wp2_with fail
      go_end0
      exact ⟨rfl, _, Nat.le_refl _, (by rw [HK.out, List.drop_eq_nil_of_le (by rw [bs_len]; exact Nat.le_refl _), Lx.skip]), HS.out.same ⟨rfl, rfl, rfl, rfl⟩, below_same HB.out ⟨rfl, rfl, rfl, rfl⟩⟩
end Go.Proofs.YtnccndfffmaonaaGreatDoor
