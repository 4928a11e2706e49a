/- Parts Mp, BrA, BrB of this claim, laid one behind the other: walks and the plain laws behind them; each contract states its own conditions. -/
import Derived.Maps.OwnSet
import Derived.Maps.Views
import Derived.Maps.Keyed
import Derived.Test.YtcdfmgobokjcnaaGreatDoorZC
/- Maps of a call's own: from ints to ints, from ints to bools (sets), from strings to ints. -/
namespace Go.Proofs.YtcdfmgobokjcnaaGreatDoor
set_option linter.unusedSimpArgs false
set_option linter.unusedVariables false
open Go.RowKit Go.Maps

theorem Tryz.zInt (w : World) : (zeroValue 3).run Tryz.prog w = .ok (.int .i64 0) w := by kernel_rfl
theorem Tryz.zBool (w : World) : (zeroValue 4).run Tryz.prog w = .ok (.bool false) w := by kernel_rfl
theorem wf64 {n : Int} (h : -9223372036854775808 ≤ n ∧ n ≤ 9223372036854775807) : (Lit.int .i64 n).wf = true := by
  simp only [Lit.wf, Bool.and_eq_true, decide_eq_true_eq]; exact h
theorem Tryz.keyI {c : Int} (h : -9223372036854775808 ≤ c ∧ c ≤ 9223372036854775807) : keyOf Tryz.prog 3 (.int .i64 c) = some (.int .i64 c) := keyOf_int_mk Tryz.underlying3 (wf64 h)
theorem plain_bool_inv {P : Program} {e : TypeId} (he : P.underlying e = some .bool) {v : Value} {z : DataW Unit × List MemPlace} (h : plainElem P e v = some z) : ∃ x, v = .bool x ∧ z = (.lit (.bool x), []) := by
  unfold plainElem at h
  rw [he] at h
  cases v <;> simp at h
  exact ⟨_, rfl, h.symm⟩
theorem lit_bool_inj {x y : Bool} (h : (DataW.lit (.bool x) : DataW Unit) = .lit (.bool y)) : x = y := by
  injection h with h; injection h
theorem lit_int_inj {x y : Int} (h : (DataW.lit (.int .i64 x) : DataW Unit) = .lit (.int .i64 y)) : x = y := by
  injection h with h; injection h
/-- The set of a list. -/
def dB (l : List Int) : DataW Unit := l.foldl (fun d c => d.put (.int .i64 c) (.lit (.bool true))) (.map [])
/-- The map of a list of pairs. -/
def dI (l : List (Int × Int)) : DataW Unit := l.foldl (fun d p => d.put (.int .i64 p.1) (.lit (.int .i64 p.2))) (.map [])
theorem dB_isMap (l : List Int) : IsMap (dB l) := by
  have : ∀ (l : List Int) (d : DataW Unit), IsMap d → IsMap (l.foldl (fun d c => d.put (.int .i64 c) (.lit (.bool true))) d) := by
    intro l
    induction l with
    | nil => intro d h; exact h
    | cons x l ih => intro d h; exact ih _ (h.put _ _)
  exact this l _ isMap_empty
theorem dI_isMap (l : List (Int × Int)) : IsMap (dI l) := by
  have : ∀ (l : List (Int × Int)) (d : DataW Unit), IsMap d → IsMap (l.foldl (fun d p => d.put (.int .i64 p.1) (.lit (.int .i64 p.2))) d) := by
    intro l
    induction l with
    | nil => intro d h; exact h
    | cons x l ih => intro d h; exact ih _ (h.put _ _)
  exact this l _ isMap_empty
theorem dB_snoc (l : List Int) (c : Int) : dB (l ++ [c]) = (dB l).put (.int .i64 c) (.lit (.bool true)) := by unfold dB; rw [List.foldl_append]; rfl
theorem dI_snoc (l : List (Int × Int)) (p : Int × Int) : dI (l ++ [p]) = (dI l).put (.int .i64 p.1) (.lit (.int .i64 p.2)) := by unfold dI; rw [List.foldl_append]; rfl
theorem snoc_ind {α : Type} {p : List α → Prop} (h0 : p []) (h1 : ∀ l x, p l → p (l ++ [x])) (l : List α) : p l := by
  have : ∀ m : List α, p m.reverse := by
    intro m
    induction m with
    | nil => exact h0
    | cons x m ih => rw [List.reverse_cons]; exact h1 _ _ ih
  rw [← List.reverse_reverse l]; exact this _
theorem dB_at (c : Int) (l : List Int) : (dB l).atKey (.int .i64 c) (.lit (.bool false)) = .lit (.bool (decide (c ∈ l))) := by
  induction l using snoc_ind with
  | h0 => rfl
  | h1 l x ih =>
    rw [dB_snoc]
    by_cases e : c = x
    · subst e
      rw [atKey_put_same (dB_isMap l) (by simp [WideAt.IsKeyLit])]; simp
    · rw [atKey_put_other (fun h => e (by injection h)), ih]
      congr 2
      simp [e]
theorem dI_has (c : Int) (l : List (Int × Int)) : has (dI l) (.int .i64 c) = decide (c ∈ l.map (·.1)) := by
  induction l using snoc_ind with
  | h0 => rfl
  | h1 l x ih =>
    rw [dI_snoc]
    by_cases e : c = x.1
    · subst e
      rw [has_put_same (dI_isMap l) (by simp [WideAt.IsKeyLit])]; simp
    · rw [has_put_other (fun h => e (by injection h)), ih]; simp [e]
/-- What is found under a key that is there is one of the values. -/
theorem dI_at (c : Int) (l : List (Int × Int)) : ∃ v, (dI l).atKey (.int .i64 c) (.lit (.int .i64 0)) = .lit (.int .i64 v) ∧ (v = 0 ∨ (c, v) ∈ l) := by
  induction l using snoc_ind with
  | h0 => exact ⟨0, rfl, .inl rfl⟩
  | h1 l x ih =>
    rw [dI_snoc]
    by_cases e : c = x.1
    · subst e
      exact ⟨x.2, atKey_put_same (dI_isMap l) (by simp [WideAt.IsKeyLit]) _ _, .inr (by simp)⟩
    · obtain ⟨v, h1, h2⟩ := ih
      exact ⟨v, by rw [atKey_put_other (fun h => e (by injection h)), h1], h2.imp id (fun h => List.mem_append_left _ h)⟩
/-- A block is the map of a list: from ints to bools, to ints; from strings to ints (whatever it holds). -/
def MapB (w : World) (b : Nat) (l : List Int) : Prop := w.ownsMap Tryz.prog 3 (plainElem Tryz.prog 4) b l.length (dB l)
def MapI (w : World) (b : Nat) (l : List (Int × Int)) : Prop := w.ownsMap Tryz.prog 3 (plainElem Tryz.prog 3) b l.length (dI l)
def MapS (w : World) (b n : Nat) : Prop := ∃ D : DataW Unit, w.ownsMap Tryz.prog 9 (plainElem Tryz.prog 3) b n D
theorem MapB.lt {w : World} {b : Nat} {l : List Int} (h : MapB w b l) : b < w.heap.size := World.ownsMap.lt h
theorem MapI.lt {w : World} {b : Nat} {l : List (Int × Int)} (h : MapI w b l) : b < w.heap.size := World.ownsMap.lt h
theorem MapS.lt {w : World} {b n : Nat} (h : MapS w b n) : b < w.heap.size := by obtain ⟨D, h⟩ := h; exact World.ownsMap.lt h
theorem grown_of_below {w w' : World} (h : Below w.heap.size w w') : w.grownBy w' none := ⟨h.os, h.tape, h.output, h.size, fun k hk _ => h.block k hk⟩
theorem MapB.kept {w w' : World} {b : Nat} {l : List Int} {row : Option Nat} (h : MapB w b l) (hg : w.grownBy w' row) (hne : some b ≠ row) : MapB w' b l := World.ownsMap.kept h hg hne
theorem MapI.kept {w w' : World} {b : Nat} {l : List (Int × Int)} {row : Option Nat} (h : MapI w b l) (hg : w.grownBy w' row) (hne : some b ≠ row) : MapI w' b l := World.ownsMap.kept h hg hne
theorem MapS.kept {w w' : World} {b n : Nat} {row : Option Nat} (h : MapS w b n) (hg : w.grownBy w' row) (hne : some b ≠ row) : MapS w' b n := by obtain ⟨D, h⟩ := h; exact ⟨D, World.ownsMap.kept h hg hne⟩
theorem MapB.below {w w' : World} {b : Nat} {l : List Int} (h : MapB w b l) (hb : Below w.heap.size w w') : MapB w' b l := h.kept (grown_of_below hb) (by simp)
theorem MapI.below {w w' : World} {b : Nat} {l : List (Int × Int)} (h : MapI w b l) (hb : Below w.heap.size w w') : MapI w' b l := h.kept (grown_of_below hb) (by simp)
theorem MapS.below {w w' : World} {b n : Nat} (h : MapS w b n) (hb : Below w.heap.size w w') : MapS w' b n := h.kept (grown_of_below hb) (by simp)
theorem MapB.look {w : World} {b : Nat} {l : List Int} (h : MapB w b l) {c : Int} (hc : -9223372036854775808 ≤ c ∧ c ≤ 9223372036854775807) :
    (Instr.lookup 150 (.map (some b)) (.int .i64 c) false).run Tryz.prog w = .ok (.bool (decide (c ∈ l))) w := by
  obtain ⟨v, ps, hrun, hv⟩ := World.ownsMap.lookup h (int_keyed Tryz.underlying3) Tryz.underlying150 (Tryz.zBool w) (plainElem_bool Tryz.underlying4 false) (Tryz.keyI hc)
  rw [dB_at] at hv
  obtain ⟨x, rfl, hx⟩ := plain_bool_inv Tryz.underlying4 hv
  have h1 := lit_bool_inj (congrArg Prod.fst hx)
  rw [h1]
  exact hrun
theorem MapI.look {w : World} {b : Nat} {l : List (Int × Int)} (h : MapI w b l) {c : Int} (hc : -9223372036854775808 ≤ c ∧ c ≤ 9223372036854775807) :
    ∃ v, (Instr.lookup 149 (.map (some b)) (.int .i64 c) true).run Tryz.prog w = .ok (.tuple #[.int .i64 v, .bool (decide (c ∈ l.map (·.1)))]) w ∧ (v = 0 ∨ (c, v) ∈ l) := by
  obtain ⟨v, ps, hrun, hv⟩ := World.ownsMap.look_ok h (int_keyed Tryz.underlying3) Tryz.underlying149 (Tryz.zInt w) (plainElem_int Tryz.underlying3 (by decide)) (Tryz.keyI hc)
  obtain ⟨n, rfl, hn, -⟩ := plainElem_int_inv Tryz.underlying3 hv
  obtain ⟨v2, h1, h2⟩ := dI_at c l
  rw [dI_has] at hrun
  rw [h1] at hn
  injection hn with hn _
  injection hn with hn
  injection hn with _ hn
  subst hn
  exact ⟨v2, hrun, h2⟩
theorem MapS.look {w : World} {b n : Nat} (h : MapS w b n) {s : ByteArray} (hs : s.size ≤ maxLen) :
    ∃ (v : Int) (B : Bool), (Instr.lookup 151 (.map (some b)) (.string s) true).run Tryz.prog w = .ok (.tuple #[.int .i64 v, .bool B]) w := by
  obtain ⟨D, h⟩ := h
  have hk := WideMaps.keyOf_string_mk (P := Tryz.prog) (k := 9) Tryz.underlying9 (s := s) hs
  obtain ⟨v, ps, hrun, hv⟩ := World.ownsMap.look_ok h (string_keyed Tryz.underlying9) Tryz.underlying151 (Tryz.zInt w) (plainElem_int Tryz.underlying3 (by decide)) hk
  obtain ⟨n, rfl, -, -⟩ := plainElem_int_inv Tryz.underlying3 hv
  exact ⟨n, _, hrun⟩
theorem MapB.store {w : World} {b : Nat} {l : List Int} (h : MapB w b l) (hl : l.length < maxLen) {c : Int} (hc : -9223372036854775808 ≤ c ∧ c ≤ 9223372036854775807) :
    ∃ w', (Instr.mapUpdate 150 (.map (some b)) (.int .i64 c) (.bool true)).run Tryz.prog w = .ok () w' ∧ MapB w' b (l ++ [c]) ∧ w.grownBy w' (some b) := by
  obtain ⟨w', h1, h2, h3⟩ := World.ownsMap.update h (int_keyed Tryz.underlying3) Tryz.underlying150 hl (Tryz.keyI hc) (plainElem_bool Tryz.underlying4 true)
  refine ⟨w', h1, ?_, h3⟩
  unfold MapB
  rw [dB_snoc, List.length_append]; exact h2
theorem MapI.store {w : World} {b : Nat} {l : List (Int × Int)} (h : MapI w b l) (hl : l.length < maxLen) {c n : Int} (hc : -9223372036854775808 ≤ c ∧ c ≤ 9223372036854775807) (hn : -9223372036854775808 ≤ n ∧ n ≤ 9223372036854775807) :
    ∃ w', (Instr.mapUpdate 149 (.map (some b)) (.int .i64 c) (.int .i64 n)).run Tryz.prog w = .ok () w' ∧ MapI w' b (l ++ [(c, n)]) ∧ w.grownBy w' (some b) := by
  obtain ⟨w', h1, h2, h3⟩ := World.ownsMap.update h (int_keyed Tryz.underlying3) Tryz.underlying149 hl (Tryz.keyI hc) (plainElem_int Tryz.underlying3 (wf64 hn))
  refine ⟨w', h1, ?_, h3⟩
  unfold MapI
  rw [dI_snoc, List.length_append]; exact h2
theorem MapS.store {w : World} {b n : Nat} (h : MapS w b n) (hl : n < maxLen) {s : ByteArray} (hs : s.size ≤ maxLen) {m : Int} (hm : -9223372036854775808 ≤ m ∧ m ≤ 9223372036854775807) :
    ∃ w', (Instr.mapUpdate 151 (.map (some b)) (.string s) (.int .i64 m)).run Tryz.prog w = .ok () w' ∧ MapS w' b (n + 1) ∧ w.grownBy w' (some b) := by
  obtain ⟨D, h⟩ := h
  have hk := WideMaps.keyOf_string_mk (P := Tryz.prog) (k := 9) Tryz.underlying9 (s := s) hs
  obtain ⟨w', h1, h2, h3⟩ := World.ownsMap.update h (string_keyed Tryz.underlying9) Tryz.underlying151 hl hk (plainElem_int Tryz.underlying3 (wf64 hm))
  exact ⟨w', h1, ⟨_, h2⟩, h3⟩
theorem MapB.made (w : World) : MapB (w.alloc (.map #[] 0)) w.heap.size [] := World.ownsMap_made ..
theorem MapI.made (w : World) : MapI (w.alloc (.map #[] 0)) w.heap.size [] := World.ownsMap_made ..
theorem MapS.made (w : World) : MapS (w.alloc (.map #[] 0)) w.heap.size 0 := ⟨_, World.ownsMap_made ..⟩
end Go.Proofs.YtcdfmgobokjcnaaGreatDoor
/- Walks of package body: within. -/
namespace Go.Proofs.YtcdfmgobokjcnaaGreatDoor
set_option linter.unusedSimpArgs false
set_option linter.unusedVariables false
open Go.RowKit

set_option maxHeartbeats 1000000 in
theorem bwithin_any (n a b : Int) (w : World) :
    Calls Tryz.prog 82 #[.int .i64 n, .int .i64 a, .int .i64 b] w fun e w' => e = .returned (.bool (Bd.inB n a b)) ∧ w = w' := by
  by_cases h1 : a ≤ n
  · have HW : Hid (Bd.inB n a b = decide (n ≤ b)) := Lib.hid (by simp [Bd.inB, h1])
    go_enter Tryz.func82, Tryz.ntmps82
    go_wp2_with fail
    go_ret
    exact ⟨by rw [HW.out]; rfl, rfl⟩
  · have HW : Hid (Bd.inB n a b = false) := Lib.hid (by simp [Bd.inB, h1])
    go_enter Tryz.func82, Tryz.ntmps82
    go_wp2_with fail
    go_ret
    exact ⟨by rw [HW.out]; rfl, rfl⟩
/-- A cell of one of some kinds. -/
def onL (f : Fl.Floor) (c : Int) (ks : List Int) : Bool := decide (0 ≤ c) && (decide (c < (f.kind.length : Int)) && ks.contains (f.kind.getD c.toNat 0))
theorem onL_two (f : Fl.Floor) (c a b : Int) : onL f c [a, b] = Bd.onB f c a b := by
  have h : ∀ x : Int, ([a, b] : List Int).contains x = (decide (x = a) || decide (x = b)) := fun x => by rw [Bool.eq_iff_iff]; simp
  unfold onL Bd.onB
  rw [h]
theorem onL_one (f : Fl.Floor) (c a : Int) : onL f c [a] = Bd.onB f c a a := by
  have h : ∀ x : Int, ([a] : List Int).contains x = (decide (x = a) || decide (x = a)) := fun x => by rw [Bool.eq_iff_iff]; simp
  unfold onL Bd.onB
  rw [h]
end Go.Proofs.YtcdfmgobokjcnaaGreatDoor
/- Walks of package body: robots. -/
namespace Go.Proofs.YtcdfmgobokjcnaaGreatDoor
set_option linter.unusedSimpArgs false
set_option linter.unusedVariables false
open Go.RowKit Go.Maps

theorem MapB.lookQ2 {w : World} {b : Nat} {l : List Int} (h : MapB w b l) {c : Int} (hc : -9223372036854775808 ≤ c ∧ c ≤ 9223372036854775807) (q : Nat) :
    (Instr.lookup 150 (.map (some b)) (.int .i64 c) false).run Tryz.prog (w.drewN q) = .ok (.bool (decide (c ∈ l))) (w.drewN q) := MapB.look (w := w.drewN q) h hc
theorem below_grownB {base b : Nat} {w w' : World} (hb : base ≤ b) (hw : base ≤ w.heap.size) (hg : w.grownBy w' (some b)) : Below base w w' :=
  ⟨hg.os, hg.tape, hg.output, hg.size, fun k hk => hg.block k (by omega) (fun e => by injection e with e; omega)⟩
/-- The loads of the first robots. -/
def loadsL (l : List Bd.Robot) (k : Nat) : List Int := (l.take k).map (·.load)
theorem loadsL_succ {l : List Bd.Robot} {k : Nat} (h : k < l.length) : loadsL l (k + 1) = loadsL l k ++ [l[k].load] := by
  unfold loadsL; rw [List.take_succ_eq_append_getElem h, List.map_append]; rfl
theorem loadsL_len (l : List Bd.Robot) (k : Nat) : (loadsL l k).length ≤ k := by unfold loadsL; simp; omega
/-- The numbers of robots are numbers of Go. -/
structure RobN (r : Bd.Robot) : Prop where
  h1 : -9223372036854775808 ≤ r.cell ∧ r.cell ≤ 9223372036854775807
  h2 : -9223372036854775808 ≤ r.load ∧ r.load ≤ 9223372036854775807
set_option maxRecDepth 100000 in
set_option maxHeartbeats 16000000 in
theorem robotsB_any (f : Fl.Floor) (kv ov zv av hv bv : Value) (s : Bd.State) (sv rv pv dv ku : Value) (w : World) (hf : FlV w kv ov f) (h : StV w sv rv pv dv ku s) (hn : ∀ r ∈ s.robots, RobN r) (hrl : s.robots.length ≤ 1000000) :
    Calls Tryz.prog 83 #[siF f kv ov zv av hv bv, stV s sv rv pv dv ku] w fun e w' => e = .returned (.bool (Bd.robsB f s)) ∧ Below w.heap.size w w' := by
  obtain ⟨a1, c1, rfl, m1⟩ := hf.kind.form
  obtain ⟨a2, c2, rfl, m2⟩ := h.sh.form
  obtain ⟨a3, c3, rfl, m3⟩ := h.ro.form
  have HF := Lib.hid hf
  have HS := Lib.hid h
  have HNR := Lib.hid hn
  obtain ⟨K, hK⟩ : ∃ n, f.kind.length = n := ⟨_, rfl⟩
  obtain ⟨L, hL⟩ : ∃ n, s.shelves.length = n := ⟨_, rfl⟩
  obtain ⟨N, hN⟩ : ∃ n, s.robots.length = n := ⟨_, rfl⟩
  have HK := Lib.hid hK
  have HL := Lib.hid hL
  have HN := Lib.hid hN
  have hmm := @run_makeMap Tryz.prog
  obtain ⟨R, hR⟩ : ∃ R, Bd.robsB f s = R := ⟨_, rfl⟩
  have HR : Hid (Bd.robGo f s.shelves [] s.robots = R) := Lib.hid hR
  rw [hR]
  unfold siF stV
  rw [hK] at m1 ⊢
  rw [hL] at m2 ⊢
  rw [hN] at m3 hrl ⊢
  obtain ⟨w2, hw2⟩ : ∃ W, W = (w.alloc (.cells #[.int .i64 f.w, .int .i64 f.h, .int .i64 f.d, .slice a1 K c1, ov, zv, av, hv, bv] 30)).alloc (.cells #[.int .i64 s.tick, .slice a2 L c2, .slice a3 N c3, pv, dv, ku] 34) := ⟨_, rfl⟩
  have HA := al2 w (.cells #[.int .i64 f.w, .int .i64 f.h, .int .i64 f.d, .slice a1 K c1, ov, zv, av, hv, bv] 30) (.cells #[.int .i64 s.tick, .slice a2 L c2, .slice a3 N c3, pv, dv, ku] 34)
  rw [← hw2] at HA
  have IS := Lib.hid HA.1
  have IT := Lib.hid HA.2.1
  have B2 := Lib.hid HA.2.2.1
  have HW2 := Lib.hid hw2
  clear hf h hn hK hL hN hR hw2 HA
  go_enter Tryz.func83, Tryz.ntmps83
  go_upto_region 1 with fail
  rw [← HW2.out]
  obtain ⟨w3, hw3⟩ : ∃ W, W = w2.alloc (.map #[] 0) := ⟨_, rfl⟩
  have M3 : Hid (MapB w3 w2.heap.size (loadsL s.robots 0)) := Lib.hid (by rw [hw3]; exact MapB.made w2)
  have BM3 : Hid (Below w2.heap.size w2 w3) := Lib.hid (by rw [hw3]; exact (Below.refl _ _).alloc (Nat.le_refl _) _)
  have B3 := Lib.hid (B2.out.trans (BM3.out.mono B2.out.size))
  have IS3 := Lib.hid (keep_heap IS.out BM3.out)
  have IT3 := Lib.hid (keep_heap IT.out BM3.out)
  have HW3 := Lib.hid hw3
  have q2 : w3.cell? ⟨w.heap.size + 1, 2, none⟩ = some (.slice a3 N c3) := cell_of_heap IT3.out 2 rfl
  have ML3 : Hid (w2.heap.size < w3.heap.size) := Lib.hid M3.out.lt
  clear hw3
  go_upto_region 2 with fail
  rw [← HW3.out]
  go_wp2_with fail
  go_loopw [12] (fun iv wr => ∃ k : Nat, k ≤ N ∧ iv = .int .i64 k ∧ Hid (MapB wr w2.heap.size (loadsL s.robots k)) ∧ Hid (Bd.robGo f s.shelves (loadsL s.robots k) (s.robots.drop k) = R) ∧ Hid (Below w2.heap.size w2 wr)) (fun iv _ => N - (intOf iv).toNat)
  case atStart => exact ⟨0, by omega, rfl, M3, HR, BM3⟩
  case round =>
    obtain ⟨k, hk, rfl, HM, HG, HU⟩ := hrel
    by_cases hkn : k < N
    · have hkl : k < s.robots.length := by rw [HN.out]; exact hkn
      have BW : Hid (Below w.heap.size w wr) := Lib.hid (B2.out.trans (HU.out.mono B2.out.size))
      obtain ⟨rb, ro, rfl, hrb, x0, x1, x2, x3, x4, x5⟩ := (HS.out.ro.keep BW.out).cell k hkl
      have i0 : (0 : Int) ≤ (k : Int) := by omega
      have i1 : (k : Int) < (N : Int) := by omega
      have hg := HG.out
      rw [Bd.robGo_take f s.shelves s.robots _ k hkl] at hg
      have HLS := Lib.hid (loadsL_succ hkl)
      have HXN := Lib.hid (HNR.out _ (List.getElem_mem hkl))
      obtain ⟨X, hX⟩ : ∃ X, s.robots[k] = X := ⟨_, rfl⟩
      rw [hX] at x0 x1 x2 x3 x4 x5 hg HLS HXN
      rw [← HLS.out] at hg
      obtain ⟨SE, hSE⟩ : ∃ l, loadsL s.robots k = l := ⟨_, rfl⟩
      have HSL : Hid (SE.length ≤ k) := Lib.hid (by rw [← hSE]; exact loadsL_len _ _)
      rw [hSE] at hg HM HLS
      have HG2 := Lib.hid hg
      obtain ⟨wa, hwa⟩ : ∃ W, W = wr.alloc (.cells #[.int .i64 X.cell, .int .i64 X.load, .int .i64 X.charge, .int .i64 X.rest, .int .i64 X.mute, .bool X.dead] 72) := ⟨_, rfl⟩
      have ga := al1 wr (.cells #[.int .i64 X.cell, .int .i64 X.load, .int .i64 X.charge, .int .i64 X.rest, .int .i64 X.mute, .bool X.dead] 72)
      rw [← hwa] at ga
      have BUA : Hid (Below w2.heap.size w2 wa) := Lib.hid (HU.out.trans (ga.2.1.mono HU.out.size))
      have BWA : Hid (Below w.heap.size w wa) := Lib.hid (B2.out.trans (BUA.out.mono B2.out.size))
      have MA : Hid (MapB wa w2.heap.size SE) := Lib.hid (HM.out.below ga.2.1)
      have y0 : wa.cell? ⟨wr.heap.size, 0, none⟩ = some (.int .i64 X.cell) := cell_of_heap ga.1 0 rfl
      have y1 : wa.cell? ⟨wr.heap.size, 1, none⟩ = some (.int .i64 X.load) := cell_of_heap ga.1 1 rfl
      have y2 : wa.cell? ⟨wr.heap.size, 2, none⟩ = some (.int .i64 X.charge) := cell_of_heap ga.1 2 rfl
      have y3 : wa.cell? ⟨wr.heap.size, 3, none⟩ = some (.int .i64 X.rest) := cell_of_heap ga.1 3 rfl
      have y4 : wa.cell? ⟨wr.heap.size, 4, none⟩ = some (.int .i64 X.mute) := cell_of_heap ga.1 4 rfl
      have p3 : wa.cell? ⟨w.heap.size, 3, none⟩ = some (.slice a1 K c1) := cell_of_heap (keep_heap IS.out BUA.out) 3 rfl
      have t1 : wa.cell? ⟨w.heap.size + 1, 1, none⟩ = some (.slice a2 L c2) := cell_of_heap (keep_heap IT.out BUA.out) 1 rfl
      have HWA := Lib.hid hwa
      clear hg hX hSE hkl ga hwa
      go_upto_region 5 with fail
      rw [← HWA.out]
      clear x0 x1 x2 x3 x4 x5 q2
      have HNO1 : Hid (Bd.robOk f s.shelves X = false → R = false) := Lib.hid (fun h => by rw [← HG2.out, h]; rfl)
      have HNO2 : Hid (Bd.loadOk s.shelves SE X = false → R = false) := Lib.hid (fun h => by rw [← HG2.out, h]; simp)
      have HYES : Hid (Bd.robOk f s.shelves X = true → Bd.loadOk s.shelves SE X = true → Bd.robGo f s.shelves (loadsL s.robots (k + 1)) (s.robots.drop (k + 1)) = R) := Lib.hid (fun h1 h2 => by have := HG2.out; rwa [h1, h2, Bool.true_and, Bool.true_and] at this)
      by_cases e0 : 0 ≤ X.cell
      · by_cases e1 : X.cell < (K : Int)
        · obtain ⟨c, hc⟩ := Int.eq_ofNat_of_zero_le e0
          have hck : c < f.kind.length := by rw [HK.out]; omega
          obtain ⟨kb, ko, rfl, r0⟩ := (HF.out.kind.keep BWA.out).cell c hck
          have HKC : Hid (f.kind.getD X.cell.toNat 0 = f.kind[c]) := Lib.hid (by rw [hc]; simp [List.getD, hck])
          obtain ⟨kx, hkx⟩ : ∃ x, f.kind[c] = x := ⟨_, rfl⟩
          rw [hkx] at r0 HKC
          have HC := Lib.hid hc
          obtain ⟨CX, hCX⟩ : ∃ x, X.cell = x := ⟨_, rfl⟩
          rw [hCX] at y0 e0 e1 HC HKC
          have HCX := Lib.hid hCX
          have hcc := HC.out
          subst hcc
          clear hck hkx hc hCX
          by_cases e2 : kx = 0
          · have HRf : Hid (R = false) := Lib.hid (HNO1.out (by unfold Bd.robOk; rw [HCX.out, HKC.out]; simp [e2]))
            have t0 : (kx == 0) = true := by simp [e2]
            go_wp2_with fail
            go_ret
            exact ⟨by rw [HRf.out]; rfl, BWA.out⟩
          · have t0 : (kx == 0) = false := by simp [e2]
            have hw1 : IntKind.i64.wrap ((L : Int) - 1) = (L : Int) - 1 := IntWalk.i64_in _ (by omega)
            have HOK : Hid (Bd.robOk f s.shelves X = (Bd.inB X.load (-1) ((L : Int) - 1) && (Bd.inB X.charge 0 1000000 && (Bd.inB X.rest 0 20000 && Bd.inB X.mute 0 20000)))) := Lib.hid (by
              unfold Bd.robOk; rw [HCX.out, HKC.out, decide_eq_true e0, HK.out, decide_eq_true e1, decide_eq_false e2, HL.out]; rfl)
            have C1 := Lib.hid (fun W => bwithin_any X.load (-1) ((L : Int) - 1) W)
            have C2 := Lib.hid (fun W => bwithin_any X.charge 0 1000000 W)
            have C3 := Lib.hid (fun W => bwithin_any X.rest 0 20000 W)
            have C4 := Lib.hid (fun W => bwithin_any X.mute 0 20000 W)
            obtain ⟨I1, hI1⟩ : ∃ b, Bd.inB X.load (-1) ((L : Int) - 1) = b := ⟨_, rfl⟩
            obtain ⟨I2, hI2⟩ : ∃ b, Bd.inB X.charge 0 1000000 = b := ⟨_, rfl⟩
            obtain ⟨I3, hI3⟩ : ∃ b, Bd.inB X.rest 0 20000 = b := ⟨_, rfl⟩
            obtain ⟨I4, hI4⟩ : ∃ b, Bd.inB X.mute 0 20000 = b := ⟨_, rfl⟩
            rw [hI1] at C1
            rw [hI2] at C2
            rw [hI3] at C3
            rw [hI4] at C4
            rw [hI1, hI2, hI3, hI4] at HOK
            have H1 := Lib.hid hI1
            clear hI1 hI2 hI3 hI4
            go_wp2_with fail
            go_at_call 82; refine (C1.out _).mono ?_; rintro e w5 ⟨rfl, rfl⟩
            cases I1 with
            | false =>
              have HRf : Hid (R = false) := Lib.hid (HNO1.out (by rw [HOK.out]; rfl))
              go_wp2_with fail
              go_ret
              exact ⟨by rw [HRf.out]; rfl, BWA.out⟩
            | true =>
              go_wp2_with fail
              go_at_call 82; refine (C2.out _).mono ?_; rintro e w5 ⟨rfl, rfl⟩
              cases I2 with
              | false =>
                have HRf : Hid (R = false) := Lib.hid (HNO1.out (by rw [HOK.out]; rfl))
                go_wp2_with fail
                go_ret
                exact ⟨by rw [HRf.out]; rfl, BWA.out⟩
              | true =>
                go_wp2_with fail
                go_at_call 82; refine (C3.out _).mono ?_; rintro e w5 ⟨rfl, rfl⟩
                cases I3 with
                | false =>
                  have HRf : Hid (R = false) := Lib.hid (HNO1.out (by rw [HOK.out]; rfl))
                  go_wp2_with fail
                  go_ret
                  exact ⟨by rw [HRf.out]; rfl, BWA.out⟩
                | true =>
                  go_wp2_with fail
                  go_at_call 82; refine (C4.out _).mono ?_; rintro e w5 ⟨rfl, rfl⟩
                  cases I4 with
                  | false =>
                    have HRf : Hid (R = false) := Lib.hid (HNO1.out (by rw [HOK.out]; rfl))
                    go_wp2_with fail
                    go_ret
                    exact ⟨by rw [HRf.out]; rfl, BWA.out⟩
                  | true =>
                    go_upto_region 9 with fail
                    have BQ : Hid (∀ q, Below w.heap.size w (wa.drewN q)) := Lib.hid (fun q => BWA.out.trans (below_drewN _ _ _))
                    have HOKt : Hid (Bd.robOk f s.shelves X = true) := Lib.hid (by rw [HOK.out]; rfl)
                    have HLN := HXN.out.h2
                    clear C1 C2 C3 C4 p3
                    by_cases l0 : 0 ≤ X.load
                    · have hl1 : X.load ≤ (L : Int) - 1 := by
                        have := H1.out
                        unfold Bd.inB at this
                        rw [Bool.and_eq_true, decide_eq_true_eq, decide_eq_true_eq] at this
                        exact this.2
                      obtain ⟨m, hm⟩ := Int.eq_ofNat_of_zero_le l0
                      have hml : m < s.shelves.length := by rw [HL.out]; omega
                      obtain ⟨sb, so, rfl, r1⟩ := (HS.out.sh.keep BWA.out).cell m hml
                      have HSV : Hid (s.shelves.getD X.load.toNat 0 = s.shelves[m]) := Lib.hid (by rw [hm]; simp [List.getD, hml])
                      obtain ⟨sv, hsv⟩ : ∃ x, s.shelves[m] = x := ⟨_, rfl⟩
                      rw [hsv] at r1 HSV
                      have HM2 := Lib.hid hm
                      have hlk : ∀ q, (Instr.lookup 150 (.map (some w2.heap.size)) (.int .i64 (m : Int)) false).run Tryz.prog (wa.drewN q) = .ok (.bool (decide ((m : Int) ∈ SE))) (wa.drewN q) := fun q => MA.out.lookQ2 ⟨by omega, by omega⟩ q
                      have hlk0 := hlk 0
                      have m0 : (0 : Int) ≤ (m : Int) := by omega
                      have m1 : (m : Int) < (L : Int) := by omega
                      rw [hm] at y1
                      have HLO : Hid (Bd.loadOk s.shelves SE X = !(decide ((m : Int) ∈ SE) || !decide (sv = (c : Int)))) := Lib.hid (by
                        unfold Bd.loadOk; rw [decide_eq_true l0, HSV.out, HCX.out, hm]; simp)
                      obtain ⟨MM, hMM⟩ : ∃ b, decide ((m : Int) ∈ SE) = b := ⟨_, rfl⟩
                      rw [hMM] at hlk hlk0 HLO
                      clear hMM hsv hml hm l0 hl1
                      cases MM with
                      | true =>
                        have HRf : Hid (R = false) := Lib.hid (HNO2.out (by rw [HLO.out]; rfl))
                        go_quiet (fail)
                        go_wp2_with fail
                        all_goals go_ret
                        all_goals exact ⟨by rw [HRf.out]; rfl, BQ.out _⟩
                      | false =>
                        by_cases e3 : sv = (c : Int)
                        · have HLt : Hid (Bd.loadOk s.shelves SE X = true) := Lib.hid (by rw [HLO.out, decide_eq_true e3]; rfl)
                          have t3 : (sv != (c : Int)) = false := by simp [e3]
                          have HS2 := Lib.hid e3
                          subst e3
                          go_quiet (fail)
                          go_upto_region 11 with fail
                          generalize hwq : wa.drewN _ = wq
                          have MQ : MapB wq w2.heap.size SE := by rw [← hwq]; exact MA.out
                          have yq : wq.cell? ⟨wr.heap.size, 1, none⟩ = some (.int .i64 (m : Int)) := by rw [← hwq]; exact y1
                          have bq : Below w2.heap.size w2 wq := by rw [← hwq]; exact BUA.out.trans (below_drewN _ _ _)
                          obtain ⟨w9, hst, M9, G9⟩ := MQ.store (c := (m : Int)) (by have := HSL.out; unfold maxLen; omega) ⟨by omega, by omega⟩
                          have HM9 : Hid (MapB w9 w2.heap.size (loadsL s.robots (k + 1))) := Lib.hid (by rw [HLS.out, HM2.out]; exact M9)
                          have HB9 : Hid (Below w2.heap.size w2 w9) := Lib.hid (bq.trans (below_grownB (Nat.le_refl _) bq.size G9))
                          have HG9 := Lib.hid (HYES.out HOKt.out HLt.out)
                          clear hwq MQ M9 G9 bq
                          go_wp2_with fail
                          go_roundw
                          case rel => exact ⟨k + 1, by omega, by go_num, HM9, HG9, HB9⟩
                          case measure => simp [intOf]; omega
                        · have HRf : Hid (R = false) := Lib.hid (HNO2.out (by rw [HLO.out, decide_eq_false e3]; rfl))
                          have t3 : (sv != (c : Int)) = true := by simp [e3]
                          go_quiet (fail)
                          go_wp2_with fail
                          all_goals go_ret
                          all_goals exact ⟨by rw [HRf.out]; rfl, BQ.out _⟩
                    · have HLt : Hid (Bd.loadOk s.shelves SE X = true) := Lib.hid (by unfold Bd.loadOk; rw [decide_eq_false l0]; rfl)
                      go_quiet (fail)
                      go_upto_region 11 with fail
                      generalize hwq : wa.drewN _ = wq
                      have MQ : MapB wq w2.heap.size SE := by rw [← hwq]; exact MA.out
                      have yq : wq.cell? ⟨wr.heap.size, 1, none⟩ = some (.int .i64 X.load) := by rw [← hwq]; exact y1
                      have bq : Below w2.heap.size w2 wq := by rw [← hwq]; exact BUA.out.trans (below_drewN _ _ _)
                      obtain ⟨w9, hst, M9, G9⟩ := MQ.store (c := X.load) (by have := HSL.out; unfold maxLen; omega) ⟨by omega, by omega⟩
                      have HM9 : Hid (MapB w9 w2.heap.size (loadsL s.robots (k + 1))) := Lib.hid (by rw [HLS.out]; exact M9)
                      have HB9 : Hid (Below w2.heap.size w2 w9) := Lib.hid (bq.trans (below_grownB (Nat.le_refl _) bq.size G9))
                      have HG9 := Lib.hid (HYES.out HOKt.out HLt.out)
                      clear hwq MQ M9 G9 bq
                      go_wp2_with fail
                      go_roundw
                      case rel => exact ⟨k + 1, by omega, by go_num, HM9, HG9, HB9⟩
                      case measure => simp [intOf]; omega
        · have HRf : Hid (R = false) := Lib.hid (HNO1.out (by unfold Bd.robOk; rw [HK.out, decide_eq_false e1]; simp))
          go_wp2_with fail
          go_ret
          exact ⟨by rw [HRf.out]; rfl, BWA.out⟩
      · have HRf : Hid (R = false) := Lib.hid (HNO1.out (by unfold Bd.robOk; rw [decide_eq_false e0]; simp))
        go_wp2_with fail
        go_ret
        exact ⟨by rw [HRf.out]; rfl, BWA.out⟩
    · have HF2 : Hid (true = R) := Lib.hid (by have := HG.out; rwa [List.drop_eq_nil_of_le (by rw [HN.out]; omega)] at this)
      go_wp2_with fail
      go_ret
      exact ⟨by rw [← HF2.out]; rfl, B2.out.trans (HU.out.mono B2.out.size)⟩
end Go.Proofs.YtcdfmgobokjcnaaGreatDoor
