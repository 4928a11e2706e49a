/- battery.Run: the second caller of the iterator; its body may break. -/
import Derived.Test.YtmfgdocbmgmopaaBatU
namespace Go.Proofs.Ytmfgdocbmgmopaa
open Go.RowKit Go.Shelf
attribute [local go_sem] Oper.semAt_some

set_option maxRecDepth 100000 in
set_option maxHeartbeats 2000000 in
theorem Run_any (t ch : Int) (v : Value) (l : List Int) (b : Bool) (w : World) (hv : SliceI w v l) (ht : 0 ≤ t ∧ t ≤ 20000) (hlen : l.length ≤ 1000) (hch : I64 ch) :
    Calls Try.prog 12 #[.int .i64 t, .int .i64 ch, v, .bool b] w fun e w' => e = .returned (.tuple #[.int .i64 (Bat.run t ch l b).1, .int .i64 (Bat.run t ch l b).2]) ∧ Below w.heap.size w w' := by
  have hv0 := hv
  obtain ⟨a, cap, rfl, hm, hl, hc⟩ := hv
  refine (callsIn_wide (n := 20)).1 ?_
  obtain ⟨S, hS0⟩ : ∃ S, S = Bat.run t ch l b := ⟨_, rfl⟩
  rw [← hS0]
  have HS0 := Lib.hid hS0
  clear hS0
  refine callsIn_of_wp_marks Try.func12 rfl trivial ?_ rfl
  simp only [Try.ntmps12, List.size_toArray, List.length_cons, List.length_nil, Nat.reduceAdd, Nat.reduceSub, Array.replicate_succ, Array.replicate_zero, List.push_toArray, List.append_toArray, List.nil_append, List.cons_append]
  gi_wp2_with (refine ⟨trivial, ?_⟩; gi_at_call 29; refine (callsIn_wide.2 (steps_any _ _ _ _ _ _)).mono ?_; rintro e w' ⟨rfl, rfl⟩)
  obtain ⟨w2, hw2⟩ : ∃ w2, w2 = (w.alloc (.cells #[.int .i64 ch] 3)).alloc (.cells #[.int .i64 0] 3) := ⟨_, rfl⟩
  have hz2 : w2.heap.size = w.heap.size + 1 + 1 := by rw [hw2]; simp
  have hb2 : Below w.heap.size w w2 := by rw [hw2]; exact ((Below.refl _ _).alloc (Nat.le_refl _) _).alloc (by simp) _
  have hc2 : Box w2 w.heap.size 3 (.int .i64 ch) := by rw [hw2]; exact (Box.new w _ _).alloc _
  have hd2 : Box w2 (w.heap.size + 1) 3 (.int .i64 0) := by rw [hw2]; have := Box.new (w.alloc (.cells #[.int .i64 ch] 3)) 3 (.int .i64 0); rw [World.size_alloc] at this; exact this
  rw [← hw2]
  clear hw2
  obtain ⟨w3, hw3⟩ : ∃ w3, w3 = ((w2.alloc (.cells #[.int .i64 t] 3)).alloc (.cells #[.slice a l.length cap] 26)).alloc (.cells #[.bool b] 4) := ⟨_, rfl⟩
  have hz : w3.heap.size = w.heap.size + 1 + 1 + 3 := by rw [hw3]; simp; omega
  have hb3 : Below w.heap.size w w3 := by
    rw [hw3]; exact ((hb2.alloc (by omega) _).alloc (by simp; omega) _).alloc (by simp; omega) _
  have hn3 : Box w3 w.heap.size 3 (.int .i64 ch) := by rw [hw3]; exact ((hc2.alloc _).alloc _).alloc _
  have hd3 : Box w3 (w.heap.size + 1) 3 (.int .i64 0) := by rw [hw3]; exact ((hd2.alloc _).alloc _).alloc _
  have ht3 : Box w3 (w.heap.size + 1 + 1) 3 (.int .i64 t) := by rw [hw3]; have := Box.new w2 3 (.int .i64 t); rw [hz2] at this; exact (this.alloc _).alloc _
  have ha3 : Box w3 (w.heap.size + 1 + 1 + 1) 26 (.slice a l.length cap) := by rw [hw3]; have := Box.new (w2.alloc (.cells #[.int .i64 t] 3)) 26 (.slice a l.length cap); rw [World.size_alloc, hz2] at this; exact this.alloc _
  have hl3 : Box w3 (w.heap.size + 1 + 1 + 2) 4 (.bool b) := by rw [hw3]; have := Box.new ((w2.alloc (.cells #[.int .i64 t] 3)).alloc (.cells #[.slice a l.length cap] 26)) 4 (.bool b); rw [World.size_alloc, World.size_alloc, hz2] at this; exact this
  rw [← hw3]
  clear hw3
  refine range_wide (gf := 32) rfl (enters_of Try.func32 (by kernel_rfl) rfl) _ hz fun fn R hR => ?_
  refine (steps1_in 19 (w.heap.size + 1 + 1 + 4) (w.heap.size + 1 + 1 + 1) (w.heap.size + 1 + 1) (w.heap.size + 1 + 1 + 2) (.slice a l.length cap) t l b
    (fun k c W => ∃ x : Int, (I64 x ∧ S = ((Bat.run (t + k) x (l.drop k) c).1, (Bat.run (t + k) x (l.drop k) c).2 + k)) ∧ Box W w.heap.size 3 (.int .i64 x) ∧ Box W (w.heap.size + 1) 3 (.int .i64 k) ∧ RoundAt w (w.heap.size + 1 + 1) (R .ready none) t (.slice a l.length cap) c W)
    (fun W => ∃ (x : Int) (k : Nat) (c : Bool), S = (x, k) ∧ Box W w.heap.size 3 (.int .i64 x) ∧ Box W (w.heap.size + 1) 3 (.int .i64 k) ∧ RoundAt w (w.heap.size + 1 + 1) (R .done (some (.exit 0))) t (.slice a l.length cap) c W) ht hlen ?st ?yield _ ?start).mono ?done
  case st => exact fun i c W ⟨x, _, _, _, h⟩ => ⟨h.acts, h.tick, h.laden, hv0.below h.below⟩
  case start =>
    refine ⟨ch, ⟨hch, by rw [HS0.out]; simp⟩, (hn3.alloc _).alloc _, (hd3.alloc _).alloc _, (hb3.alloc (by omega) _).alloc (by simp; omega) _, (ht3.alloc _).alloc _, (ha3.alloc _).alloc _, (hl3.alloc _).alloc _, ?_, ?_⟩
    · rw [Below.heap_alloc _ _ _ (by simp; omega)]; have := World.alloc_heap_new w3 (.deferred (some [])); rw [hz] at this; exact this
    · have := World.alloc_heap_new (w3.alloc (.deferred (some []))) (R .ready none); rw [World.size_alloc, hz] at this; exact this
  case yield =>
    rintro k c W e hk he Hd ⟨x, ⟨hx, hS⟩, hn, hdn, hr⟩
    have hsz := hr.below.size
    refine yieldAt_mono (yield_wide (R := fun j W' => (j = none ∧ ∃ x' : Int, (I64 x' ∧ S = ((Bat.run (t + (k + 1 : Nat)) x' (l.drop (k + 1)) (Bat.laden e c)).1, (Bat.run (t + (k + 1 : Nat)) x' (l.drop (k + 1)) (Bat.laden e c)).2 + (k + 1))) ∧ Box W' w.heap.size 3 (.int .i64 x') ∧ Box W' (w.heap.size + 1) 3 (.int .i64 (k + 1 : Nat)) ∧ RoundAt w (w.heap.size + 1 + 1) (R .ready none) t (.slice a l.length cap) c W') ∨
        (j = some (.exit 0) ∧ S = (x, k) ∧ Box W' w.heap.size 3 (.int .i64 x) ∧ Box W' (w.heap.size + 1) 3 (.int .i64 k) ∧ RoundAt w (w.heap.size + 1 + 1) (R .done (some (.exit 0))) t (.slice a l.length cap) c W')) hR.out hr.rcd rfl ?_) ?_
    · have hlw : w.heap.size + 1 + 1 + 4 < W.heap.size := (Array.getElem?_eq_some_iff.1 hr.rcd).1
      have HS := Lib.hid hS
      clear hS hc hl hm hv0 ht3 ha3 hl3 hn3 hb3 hd3 hb2 hc2 hd2
      obtain ⟨W2, hW2⟩ : ∃ W2, W2 = (W.alloc (.cells #[.int .i64 (t + k), .int .i64 e, .bool c] 47)).putObj (w.heap.size + 1 + 1 + 4) (R .busy none) := ⟨_, rfl⟩
      have hstep : W2.heap[W.heap.size]? = some (.cells #[.int .i64 (t + k), .int .i64 e, .bool c] 47 (0, 0)) := by
        rw [hW2, World.putObj_heap_other (by omega)]; exact World.alloc_heap_new W _
      have c0 : W2.cell? ⟨W.heap.size, 0, none⟩ = some (.int .i64 (t + k)) := by simp [World.cell?, hstep]
      have c1 : W2.cell? ⟨W.heap.size, 1, none⟩ = some (.int .i64 e) := by simp [World.cell?, hstep]
      have c2 : W2.cell? ⟨W.heap.size, 2, none⟩ = some (.bool c) := by simp [World.cell?, hstep]
      have hn2 : Box W2 w.heap.size 3 (.int .i64 x) := by rw [hW2]; exact (hn.alloc _).putObj _ (by omega)
      have hm2 : Box W2 (w.heap.size + 1) 3 (.int .i64 k) := by rw [hW2]; exact (hdn.alloc _).putObj _ (by omega)
      have cn := hn2.cell
      have fn2 := hn2.frozen
      have cm := hm2.cell
      have fm := hm2.frozen
      have hr2 : RoundAt w (w.heap.size + 1 + 1) (R .busy none) t (.slice a l.length cap) c W2 := by
        rw [hW2]
        exact ⟨Below.putObj (hr.below.alloc hsz _) (by omega) _, (hr.tick.alloc _).putObj _ (by omega), (hr.acts.alloc _).putObj _ (by omega), (hr.laden.alloc _).putObj _ (by omega),
          (World.putObj_heap_other (by omega)).trans ((Below.heap_alloc _ _ _ (by omega)).trans hr.defd), World.putObj_heap_same (by simp; omega)⟩
      have HR := Lib.hid ((Below.heap_alloc W (.cells #[.int .i64 (t + k), .int .i64 e, .bool c] 47) _ hlw).trans hr.rcd)
      clear hstep
      have HW2 := Lib.hid hW2
      clear hlw hsz hW2
      gi_wp2
      refine ⟨HR.out, ?_⟩
      rw [← HW2.out]
      clear HW2 HR
      have hT : I64 (t + k) := by unfold I64; omega
      have hb := Bat.after_bd (t + k) x e c hx
      have hlt2 : w.heap.size + 1 + 1 + 4 < W2.heap.size := (Array.getElem?_eq_some_iff.1 hr2.rcd).1
      have hs : Bat.run (t + k) x (l.drop k) c = if (Bat.after (t + k) x e c).2 = 0 then
          ((Bat.run (t + (k + 1 : Nat)) (Bat.after (t + k) x e c).1 (l.drop (k + 1)) (Bat.laden e c)).1, (Bat.run (t + (k + 1 : Nat)) (Bat.after (t + k) x e c).1 (l.drop (k + 1)) (Bat.laden e c)).2 + 1) else (x, 0) := by
        rw [Hd.out, Bat.run, show t + (k : Int) + 1 = t + (k + 1 : Nat) by omega]
      have Hs := Lib.hid hs
      clear hs
      by_cases h0 : (Bat.after (t + k) x e c).2 = 0
      · have b0 : ((Bat.after (t + k) x e c).2 != 0) = false := by simpa using h0
        have H0 := Lib.hid h0
        clear h0
        have HL := Lib.hid hlt2
        clear hlt2
        gi_wp2_with (refine ⟨trivial, ?_⟩; gi_at_call 16; refine (CallsIn.inRound _ (callsIn_wide.2 (After_any _ _ _ _ _ hT hx he))).mono ?_; rintro r W3 ⟨rfl, rfl⟩)
        have hlt2 := HL.out
        have h3 : w.heap.size + 1 < W2.heap.size := hm2.lt
        refine ⟨(Below.heap_setCell _ _ _ _ (by dsimp only; omega)).trans ((Below.heap_setCell _ _ _ _ (by dsimp only; omega)).trans hr2.rcd), .inl ⟨rfl, _, ⟨hb, ?_⟩, (((hn2.set _).other _ _ (by dsimp only; omega))).putObj _ (by omega), (((hm2.other _ _ (by dsimp only; omega)).set _)).putObj _ (by omega), ?_⟩⟩
        · rw [HS.out, Hs.out, if_pos H0.out, show t + ((k + 1 : Nat) : Int) = t + ((k : Int) + 1) by omega]; simp only [Nat.add_assoc, Nat.add_comm 1 k]
        · exact ⟨Below.putObj ((hr2.below.setCell (by dsimp only; omega) _).setCell (by dsimp only; omega) _) (by omega) _, ((hr2.tick.other _ _ (by dsimp only; omega)).other _ _ (by dsimp only; omega)).putObj _ (by omega), ((hr2.acts.other _ _ (by dsimp only; omega)).other _ _ (by dsimp only; omega)).putObj _ (by omega), ((hr2.laden.other _ _ (by dsimp only; omega)).other _ _ (by dsimp only; omega)).putObj _ (by omega),
            (World.putObj_heap_other (by omega)).trans ((Below.heap_setCell _ _ _ _ (by dsimp only; omega)).trans ((Below.heap_setCell _ _ _ _ (by dsimp only; omega)).trans hr2.defd)), World.putObj_heap_same (by simp; omega)⟩
      · have b0 : ((Bat.after (t + k) x e c).2 != 0) = true := by simpa using h0
        have H0 := Lib.hid h0
        clear h0
        have HL := Lib.hid hlt2
        clear hlt2
        gi_wp2_with (refine ⟨trivial, ?_⟩; gi_at_call 16; refine (CallsIn.inRound _ (callsIn_wide.2 (After_any _ _ _ _ _ hT hx he))).mono ?_; rintro r W3 ⟨rfl, rfl⟩)
        have hlt2 := HL.out
        refine ⟨hr2.rcd, .inr ⟨rfl, ?_, hn2.putObj _ (by omega), hm2.putObj _ (by omega), ?_⟩⟩
        · rw [HS.out, Hs.out, if_neg H0.out]; simp
        · exact ⟨Below.putObj hr2.below (by omega) _, hr2.tick.putObj _ (by omega), hr2.acts.putObj _ (by omega), hr2.laden.putObj _ (by omega), (World.putObj_heap_other (by omega)).trans hr2.defd, World.putObj_heap_same hlt2⟩
    · rintro r W' (⟨rfl, ⟨-, x', hx', hn', hm', hr'⟩ | ⟨h, -⟩⟩ | ⟨rfl, c', ⟨h, -⟩ | ⟨hcc, hS', hn', hm', hr'⟩⟩)
      · refine .inl ⟨rfl, hr'.laden, x', hx', hn'.other _ _ (by dsimp only; omega), hm'.other _ _ (by dsimp only; omega), ?_⟩
        exact ⟨hr'.below.setCell (by dsimp only; omega) _, hr'.tick.other _ _ (by dsimp only; omega), hr'.acts.other _ _ (by dsimp only; omega), hr'.laden.set _, (Below.heap_setCell _ _ _ _ (by dsimp only; omega)).trans hr'.defd, (Below.heap_setCell _ _ _ _ (by dsimp only; omega)).trans hr'.rcd⟩
      · cases h
      · cases h
      · exact .inr ⟨rfl, x, k, c, hS', hn', hm', hr'⟩
  case done =>
    clear hc hm hl hv0 ht3 ha3 hl3 hn3 hb3 hd3 hb2 hc2 hd2
    rintro r W' ⟨⟨u, rfl⟩, (⟨c, x, ⟨hx, hS⟩, hn, hmm, hr⟩ | ⟨x, k, c, hS, hn, hmm, hr⟩)⟩
    · refine rangePost_none hR.out hr.rcd (by decide) ?_
      have hlt : w.heap.size + 1 + 1 + 4 < W'.heap.size := (Array.getElem?_eq_some_iff.1 hr.rcd).1
      obtain ⟨W2, hW2⟩ : ∃ W2, W2 = W'.putObj (w.heap.size + 1 + 1 + 4) (R .exhausted none) := ⟨_, rfl⟩
      have hn2 : Box W2 w.heap.size 3 (.int .i64 x) := by rw [hW2]; exact hn.putObj _ (by omega)
      have hm2 : Box W2 (w.heap.size + 1) 3 (.int .i64 l.length) := by rw [hW2]; exact hmm.putObj _ (by omega)
      have hd2 : W2.heap[w.heap.size + 1 + 1 + 3]? = some (.deferred (some [])) := by rw [hW2]; exact (World.putObj_heap_other (by omega)).trans hr.defd
      have hb2 : Below w.heap.size w W2 := by rw [hW2]; exact Below.putObj hr.below (by omega) _
      have cn := hn2.cell
      have cm := hm2.cell
      have fm := hm2.frozen
      have hxS : S = (x, l.length) := by rw [hS]; simp [Bat.run]
      have HX := Lib.hid hxS
      have HL := Lib.hid hlt
      clear hxS hS hlt
      rw [← hW2]
      clear hW2
      gi_wp2
      refine wpIn_wide.2 ?_
      go_still_tail 3, (by kernel_rfl)
      change wpList _ _ _ _ _ W2.drew
      go_wp2
      gi_wp2
      obtain ⟨W3, hW3⟩ : ∃ W3, W3 = (W2.setCell ⟨w.heap.size + 1, 0, none⟩ (.int .i64 l.length)).drew := ⟨_, rfl⟩
      have hm3 : Box W3 (w.heap.size + 1) 3 (.int .i64 l.length) := by rw [hW3]; exact (hm2.set _).drew
      have hd3 : W3.heap[w.heap.size + 1 + 1 + 3]? = some (.deferred (some [])) := by rw [hW3]; exact (Below.heap_setCell _ _ _ _ (by dsimp only; omega)).trans hd2
      have hb3 : Below w.heap.size w W3 := by rw [hW3]; exact (hb2.setCell (by dsimp only; omega) _).drew
      rw [← hW3]
      refine ⟨by simp, .inl ⟨_, _, rfl, run_takeDeferred hd3, ?_⟩⟩
      have c4 := (hm3.putObj (l := w.heap.size + 1 + 1 + 3) (.deferred none) (by omega)).cell
      exact ⟨.tuple #[.int .i64 x, .int .i64 l.length], (by simp [results, Try.results12, go_sem, c4]), by rw [HX.out], Below.putObj hb3 (by omega) _⟩
    · refine rangePost_some hR.out hr.rcd (by decide) ?_
      have hlt : w.heap.size + 1 + 1 + 4 < W'.heap.size := (Array.getElem?_eq_some_iff.1 hr.rcd).1
      obtain ⟨W2, hW2⟩ : ∃ W2, W2 = W'.putObj (w.heap.size + 1 + 1 + 4) (R .exhausted (some (.exit 0))) := ⟨_, rfl⟩
      have hn2 : Box W2 w.heap.size 3 (.int .i64 x) := by rw [hW2]; exact hn.putObj _ (by omega)
      have hm2 : Box W2 (w.heap.size + 1) 3 (.int .i64 k) := by rw [hW2]; exact hmm.putObj _ (by omega)
      have hd2 : W2.heap[w.heap.size + 1 + 1 + 3]? = some (.deferred (some [])) := by rw [hW2]; exact (World.putObj_heap_other (by omega)).trans hr.defd
      have hb2 : Below w.heap.size w W2 := by rw [hW2]; exact Below.putObj hr.below (by omega) _
      have cn := hn2.cell
      have cm := hm2.cell
      have fm := hm2.frozen
      have HX := Lib.hid hS
      have HL := Lib.hid hlt
      clear hS hlt
      rw [← hW2]
      clear hW2
      gi_wp2
      refine wpIn_wide.2 ?_
      go_still_tail 3, (by kernel_rfl)
      change wpList _ _ _ _ _ W2.drew
      go_wp2
      gi_wp2
      obtain ⟨W3, hW3⟩ : ∃ W3, W3 = (W2.setCell ⟨w.heap.size + 1, 0, none⟩ (.int .i64 k)).drew := ⟨_, rfl⟩
      have hm3 : Box W3 (w.heap.size + 1) 3 (.int .i64 k) := by rw [hW3]; exact (hm2.set _).drew
      have hd3 : W3.heap[w.heap.size + 1 + 1 + 3]? = some (.deferred (some [])) := by rw [hW3]; exact (Below.heap_setCell _ _ _ _ (by dsimp only; omega)).trans hd2
      have hb3 : Below w.heap.size w W3 := by rw [hW3]; exact (hb2.setCell (by dsimp only; omega) _).drew
      rw [← hW3]
      refine ⟨by simp, .inl ⟨_, _, rfl, run_takeDeferred hd3, ?_⟩⟩
      have c4 := (hm3.putObj (l := w.heap.size + 1 + 1 + 3) (.deferred none) (by omega)).cell
      exact ⟨.tuple #[.int .i64 x, .int .i64 k], (by simp [results, Try.results12, go_sem, c4]), by rw [HX.out], Below.putObj hb3 (by omega) _⟩
end Go.Proofs.Ytmfgdocbmgmopaa
