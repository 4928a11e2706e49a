/- Parts DtN, DtO of this claim, laid one behind the other: walks and the plain laws behind them; each contract states its own conditions. -/
import Derived.Test.YtnccndfffmaonaaGreatDoorZY
import Derived.Test.YtnccndfffmaonaaGreatDoorZYd
/- The reference of layer 10: Parse where the source has tokens. -/
namespace Go.Proofs.YtnccndfffmaonaaGreatDoor
set_option linter.unusedSimpArgs false
set_option linter.unusedVariables false
open Go.RowKit

theorem Form_lit (k : Nat) (hk : k < 6) (D : List UInt8) (hD : Dr.wordOf k = D) (w : World) : Calls Tryz.prog 24 #[.int .i64 k] w fun e w' => (∃ a b c, e = .returned (.tuple #[.string ⟨D.toArray⟩, .int .i64 a, .int .i64 b, .bool c])) ∧ w = w' := by
  subst hD
  exact (Form_any k hk w).mono fun e w' h => ⟨⟨_, _, _, h.1⟩, h.2⟩
def KDf (tk : Nat) (tx : List UInt8) (k : Nat) : Int := if tk = 0 then Dr.kdUp tx k else -1
def knw (tx : List UInt8) (dk : Nat) (K : Int) : Bool := decide (tx = Dr.wDeck) || ((decide (tx = Dr.wRow) && decide (0 < dk)) || decide (0 ≤ K))
/-- What may be said of an error. -/
theorem knw_no {toks : List Lx.Tok} {G : Except (Nat × Nat) Dr.Draft} {d : Dr.Draft} {p : Nat} {t : Lx.Tok} (hG : G = Dr.parse d (toks.drop p)) (ht : toks[p]? = some t) (hk : t.kind = 0) (h : knw t.text d.decks.length (Dr.kdUp t.text 6) = false) : G = .error (11, t.line) := by
  unfold knw at h
  simp only [Bool.or_eq_false_iff, Bool.and_eq_false_iff, decide_eq_false_iff_not] at h
  obtain ⟨h1, h2, h3⟩ := h
  rw [Dr.kdUp_6] at h3
  by_cases hr : t.text = Dr.wRow
  · rcases h2 with h2 | h2
    · exact absurd hr h2
    · exact Dr.mid_row_none hG ht hk hr (List.length_eq_zero_iff.1 (by omega))
  · cases hkd : Dr.kindOf t.text with
    | none => exact Dr.mid_none hG ht hk h1 hr hkd
    | some k => rw [hkd] at h3; exact absurd (Int.natCast_nonneg k) h3
/-- A known first word. -/
theorem knw_yes {t : Lx.Tok} {d : Dr.Draft} (h : knw t.text d.decks.length (Dr.kdUp t.text 6) = true) : t.text = Dr.wDeck ∨ (t.text ≠ Dr.wDeck ∧ t.text = Dr.wRow ∧ 0 < d.decks.length) ∨ (t.text ≠ Dr.wDeck ∧ t.text ≠ Dr.wRow ∧ ∃ k : Nat, k < 6 ∧ Dr.kindOf t.text = some k ∧ Dr.kdUp t.text 6 = (k : Int)) := by
  by_cases h1 : t.text = Dr.wDeck
  · exact .inl h1
  by_cases h2 : t.text = Dr.wRow
  · refine .inr (.inl ⟨h1, h2, ?_⟩)
    unfold knw at h
    simp only [Bool.or_eq_true, Bool.and_eq_true, decide_eq_true_eq] at h
    rcases h with h | h | h
    · exact absurd h h1
    · exact h.2
    · exfalso
      rw [h2] at h
      exact absurd h (by decide)
  · refine .inr (.inr ⟨h1, h2, ?_⟩)
    unfold knw at h
    simp only [Bool.or_eq_true, Bool.and_eq_true, decide_eq_true_eq] at h
    rw [Dr.kdUp_6] at h ⊢
    rcases h with h | h | h
    · exact absurd h h1
    · exact absurd h.1 h2
    · cases hkd : Dr.kindOf t.text with
      | none => rw [hkd] at h; exact absurd h (by decide)
      | some k => exact ⟨k, Dr.kindOf_ltK hkd, rfl, rfl⟩
theorem RP.skip {rb db p : Nat} {toks : List Lx.Tok} {G : Except (Nat × Nat) Dr.Draft} {w2 wr : World} {d : Dr.Draft} (h : RP rb db toks G w2 wr d p) (hdb : db < rb) (hp : p + 1 < toks.length) (hG : G = Dr.parse d (toks.drop (p + 1))) (o : Obj) :
    RP rb db toks G w2 ((wr.setCell ⟨rb, 1, none⟩ (.int .i64 ((p : Int) + 1))).alloc o) d (p + 1) := by
  have e : ((p : Int) + 1) = ((p + 1 : Nat) : Int) := by omega
  have hn : NB rb wr ((wr.setCell ⟨rb, 1, none⟩ (.int .i64 ((p + 1 : Nat) : Int))).alloc o) := ((NB.refl rb wr).set 1 _).alloc o
  rw [e]
  exact ⟨(h.rd.setAt (p + 1)).alloc o, h.dd.nb hn (by omega), hp, hG, h.bel.trans (hn.below (by omega) (Nat.le_of_lt h.dd.lt)), h.sz⟩
set_option maxRecDepth 100000 in
set_option maxHeartbeats 64000000 in
theorem rParse_ok (src : ByteArray) (w : World) (hs : src.size ≤ 20000) (ts : List Lx.Tok) (hl : Lx.lex (bs src) 1 = .ok ts) :
    Calls Tryz.prog 10 #[.string src] w (ParsePost (Dr.read (bs src)) w) := by
  obtain ⟨G, hG⟩ : ∃ G, G = Dr.read (bs src) := ⟨_, rfl⟩
  rw [← hG]
  unfold Dr.read at hG
  rw [hl] at hG
  have HG : Hid (G = Dr.parse .none ts) := Lib.hid hG
  have HL := Lib.hid (fun W => rLex_ok src ts hl W hs)
  have HLN := Lib.hid (Dr.lex_ln hl)
  obtain ⟨k1, ⟨front, m, k2⟩, k3, k4⟩ := Dr.lexed hl
  have k1 : ts.length ≤ 100000 := by rw [bs_len] at k1; omega
  have hne : 1 ≤ ts.length := by rw [k2]; simp
  have HT := Lib.hid (show ∀ t ∈ ts, t.text.length ≤ 1000000 from fun t ht => by have := k3 t ht; rw [bs_len] at this; omega)
  have HEN : Hid (∃ front e, ts = front ++ [e] ∧ e.kind = 4) := Lib.hid ⟨front, _, k2, rfl⟩
  obtain ⟨n, hn⟩ : ∃ n, n = ts.length := ⟨_, rfl⟩
  have HN := Lib.hid hn
  rw [← hn] at k1 hne
  clear hG hl k2 k3 k4
  have HL := Lib.hid (fun W => by have := HL.out W; rw [← hn] at this; exact this)
  clear hn
  go_enter Tryz.func10, Tryz.ntmps10
  go_wp2_with fail
  go_at_call 23; refine (HL.out _).mono ?_; rintro e w2 ⟨g, cap, rfl, tk, hnc, hcm, b2⟩
  have B2 := Lib.hid b2
  have hsz : w.heap.size < w2.heap.size := by have := b2.size; simp at this; omega
  have R0 : Hid (w2.heap[w.heap.size]? = some (.cells #[.slice none 0 0, .slice none 0 0] 25 (0, 0))) := Lib.hid ((b2.block w.heap.size (by simp)).trans (heap_alloc_new _ _))
  have TK2 := Lib.hid tk
  have P0 : Hid (RP (w2.heap.size + 1) w2.heap.size ts G w2 ((w2.alloc (.cells #[.slice none 0 0, .slice none 0 0] 25)).alloc (.cells #[.slice (some ⟨g, 0, none⟩) n cap, .int .i64 0, .bool false] 55)) .none 0) := Lib.hid (by rw [HN.out]; exact RP.start tk (by rw [← HN.out]; exact hne) (by rw [← HN.out]; exact k1) (by rw [← HN.out]; exact hnc) hcm HG.out)
  clear b2 tk
  go_wp2_with fail
  go_loopw [] (fun wr => ∃ (d : Dr.Draft) (p : Nat), Hid (RP (w2.heap.size + 1) w2.heap.size ts G w2 wr d p)) (fun wr => n - atOf (w2.heap.size + 1) wr)
  case atStart => exact ⟨_, _, P0⟩
  case round =>
    obtain ⟨d, p, HS⟩ := hrel
    clear P0
    obtain ⟨wo, rfl⟩ : ∃ wo : World, wo = wr := ⟨_, rfl⟩
    have hpn : p < n := by rw [HN.out]; exact HS.out.lt
    obtain ⟨t, ht⟩ : ∃ t, ts[p]? = some t := ⟨_, List.getElem?_eq_getElem HS.out.lt⟩
    have HTP := Lib.hid ht
    have HTX : t.text.length ≤ 1000000 := HT.out t (List.mem_of_getElem? ht)
    obtain ⟨q0, q1, q2, q3⟩ := (TK2.out.keep (HS.out.bel)) p HS.out.lt
    have hget : ts[p]'HS.out.lt = t := by rw [List.getElem?_eq_getElem HS.out.lt] at ht; injection ht
    rw [hget] at q0 q1 q2 q3
    obtain ⟨g2, cap2, h0, hT2, hg2, hnc2, hcm2, hn2⟩ := HS.out.rd
    have hgr := HS.out.rd.lt
    have c1 : wo.cell? ⟨w2.heap.size + 1, 1, none⟩ = some (.int .i64 p) := cell_of_heap h0 1 rfl
    have f1 : wo.frozen? ⟨w2.heap.size + 1, 1, none⟩ = false := free_of_heap h0 1
    have lg : g < wo.heap.size := cell_lt q0
    have pI0 : (0 : Int) ≤ (p : Int) := by omega
    have pI1 : (p : Int) < (n : Int) := by omega
    have HB0 : Hid (Below w.heap.size w wo) := Lib.hid ((((Below.refl _ w).alloc (Nat.le_refl _) _).trans (B2.out.mono (by simp))).trans (HS.out.bel.mono (by omega)))
    have r0 : wo.heap[w.heap.size]? = some (.cells #[.slice none 0 0, .slice none 0 0] 25 (0, 0)) := (HS.out.bel.block _ hsz).trans R0.out
    have R1 := Lib.hid r0
    clear ht hget hT2 h0
    by_cases h4 : t.kind = 4
    · as_aux_lemma =>
      have hGd := Lib.hid (Dr.mid_done HS.out.eq HTP.out h4)
      rw [h4] at q0
      have q4 : wo.cell? ⟨g, p * 4, none⟩ = some (.int .i64 4) := q0
      obtain ⟨dv, iv, h1, hD, hI⟩ := HS.out.dd
      have c3 : wo.cell? ⟨w2.heap.size, 0, none⟩ = some dv := cell_of_heap h1 0 rfl
      have c4 : wo.cell? ⟨w2.heap.size, 1, none⟩ = some iv := cell_of_heap h1 1 rfl
      have d0 : wo.cell? ⟨w.heap.size, 0, none⟩ = some (.slice none 0 0) := cell_of_heap r0 0 rfl
      have d1 : wo.cell? ⟨w.heap.size, 1, none⟩ = some (.slice none 0 0) := cell_of_heap r0 1 rfl
      have f0 : wo.frozen? ⟨w.heap.size, 0, none⟩ = false := free_of_heap r0 0
      have f2 : wo.frozen? ⟨w.heap.size, 1, none⟩ = false := free_of_heap r0 1
      have hne2 : w.heap.size ≠ w2.heap.size := by omega
      have HD := Lib.hid hD
      have HI := Lib.hid hI
      obtain ⟨da, dn, dc, rfl⟩ : ∃ da dn dc, dv = .slice da dn dc := by
        obtain ⟨dvs, c, hdv, -⟩ := hD
        obtain ⟨a, ca, rfl, -⟩ := own_slice hdv
        exact ⟨_, _, _, rfl⟩
      obtain ⟨ia, im, ic, rfl⟩ : ∃ da dn dc, iv = .slice da dn dc := by
        obtain ⟨l, -, hiv, -⟩ := hI
        obtain ⟨a, ca, rfl, -⟩ := own_slice hiv
        exact ⟨_, _, _, rfl⟩
      clear hD hI h4 q0 r0 h1
      go_wp2_with fail
      (try simp only [Exit.inBlock, Exit.then])
      refine bodyPost_ret (v := .tuple #[.agg #[.slice da dn dc, .slice ia im ic], .int .i64 0, .int .i64 0]) (by simp [results, Tryz.results10, go_sem, *]) rfl (.ok hGd.out ?_ ((HB0.out.setCell (Nat.le_refl _) _).setCell (Nat.le_refl _) _))
      have hnb := ((NB.refl w.heap.size wo).set 0 (.slice da dn dc)).set 1 (.slice ia im ic)
      exact ⟨(HD.out.nb2 hnb (by omega)).dv, (HI.out.nb2 hnb (by omega)).dv⟩
    by_cases h3 : t.kind = 3
    · as_aux_lemma =>
      have HGn := Lib.hid (Dr.mid_lf HS.out.eq HTP.out h3)
      have hpm := Dr.more_toks HEN.out HTP.out (by omega)
      have HA : Hid (∀ o, RP (w2.heap.size + 1) w2.heap.size ts G w2 ((wo.setCell ⟨w2.heap.size + 1, 1, none⟩ (.int .i64 ((p : Int) + 1))).alloc o) d (p + 1)) := Lib.hid (fun o => HS.out.skip (by omega) hpm HGn.out o)
      have HPM := Lib.hid hpm
      rw [h3] at q0
      have q4 : wo.cell? ⟨g, p * 4, none⟩ = some (.int .i64 3) := q0
      clear q0 h4 h3 r0 hpm
      go_wp2_with fail
      go_roundw
      case rel => exact ⟨d, p + 1, Lib.hid (HA.out _)⟩
      case measure => rw [(HA.out _).rd.at, HS.out.rd.at]; omega
    · obtain ⟨tk, tx, tn, tl⟩ := t
      dsimp only at h3 h4
      have e4 : ((tk : Int) != 4) = true := by simp; omega
      have e3 : ((tk : Int) == 3) = false := by simp; omega
      have HA0 := Lib.hid (HS.out.tok (by omega) ⟨tk, tx, tn, tl⟩)
      have HK3 := Lib.hid h3
      have HK4 := Lib.hid h4
      have d0 : wo.cell? ⟨w.heap.size, 0, none⟩ = some (.slice none 0 0) := cell_of_heap r0 0 rfl
      have d1 : wo.cell? ⟨w.heap.size, 1, none⟩ = some (.slice none 0 0) := cell_of_heap r0 1 rfl
      have f0 : wo.frozen? ⟨w.heap.size, 0, none⟩ = false := free_of_heap r0 0
      have f2 : wo.frozen? ⟨w.heap.size, 1, none⟩ = false := free_of_heap r0 1
      have hwl : w.heap.size < wo.heap.size := (Array.getElem?_eq_some_iff.1 r0).1
      dsimp only at q0 q1 q2 q3 HTX
      clear r0 h3 h4
      go_wp2_with fail
      have HB1 : Hid (Below w.heap.size w (wo.alloc (tokO ⟨tk, tx, tn, tl⟩))) := Lib.hid (HB0.out.alloc (by omega) _)
      have D0 : Hid ((wo.alloc (tokO ⟨tk, tx, tn, tl⟩)).heap[w.heap.size]? = some (.cells #[.slice none 0 0, .slice none 0 0] 25 (0, 0))) := Lib.hid ((heap_alloc_old _ _ hwl).trans R1.out)
      unfold tokO at HA0 HB1 D0
      dsimp only at HA0 HB1 D0
      generalize wo.alloc (.cells #[.int .i64 tk, .string ⟨tx.toArray⟩, .int .i64 tn, .int .i64 tl] 42) = wt at HA0 HB1 D0 ⊢
      obtain ⟨tb, htb⟩ : ∃ tb, wo.heap.size = tb := ⟨_, rfl⟩
      rw [htb] at HA0 ⊢
      clear q0 q1 q2 q3 c1 f1 d0 d1 f0 f2 htb pI0 pI1 R1 hwl lg HB0
      have q0 : wt.cell? ⟨tb, 0, none⟩ = some (.int .i64 tk) := cell_of_heap HA0.out.ht 0 rfl
      have q1 : wt.cell? ⟨tb, 1, none⟩ = some (.string ⟨tx.toArray⟩) := cell_of_heap HA0.out.ht 1 rfl
      have q3 : wt.cell? ⟨tb, 3, none⟩ = some (.int .i64 tl) := cell_of_heap HA0.out.ht 3 rfl
      have d0 : wt.cell? ⟨w.heap.size, 0, none⟩ = some (.slice none 0 0) := cell_of_heap D0.out 0 rfl
      have d1 : wt.cell? ⟨w.heap.size, 1, none⟩ = some (.slice none 0 0) := cell_of_heap D0.out 1 rfl
      have f0 : wt.frozen? ⟨w.heap.size, 0, none⟩ = false := free_of_heap D0.out 0
      have f2 : wt.frozen? ⟨w.heap.size, 1, none⟩ = false := free_of_heap D0.out 1
      have hrt := HA0.out.hb
      have hwb : w.heap.size ≠ tb := by omega
      go_loop [11, 12] (fun kd iv => ∃ k : Nat, k ≤ 6 ∧ iv = .int .i64 k ∧ kd = .int .i64 (KDf tk tx k)) (fun _ iv => 6 - (intOf iv).toNat)
      case atStart => exact ⟨0, by omega, rfl, by unfold KDf; split <;> rfl⟩
      case round =>
        obtain ⟨k, hk, rfl, rfl⟩ := hrel
        by_cases hk6 : k < 6
        · as_aux_lemma =>
          have kI : (k : Int) < 6 := by omega
          obtain ⟨D, hD⟩ : ∃ D, Dr.wordOf k = D := ⟨_, rfl⟩
          have HC := Lib.hid (fun W => Form_lit k hk6 D hD W)
          by_cases h0 : tk = 0
          · have e0 : ((tk : Int) == 0) = true := by rw [h0]; rfl
            have H0 := Lib.hid h0
            clear h0
            by_cases hw : D = tx
            · have HN : Hid (KDf tk tx (k + 1) = (k : Int)) := Lib.hid (by unfold KDf Dr.kdUp; rw [if_pos H0.out, if_pos (by rw [hD, hw])])
              subst hw
              clear hD
              go_wp2_with (go_at_call 24; refine (HC.out _).mono ?_; rintro e w' ⟨⟨a, b, c, rfl⟩, rfl⟩)
              go_round
              case rel => exact ⟨k + 1, by omega, by go_num, by rw [HN.out]⟩
              case measure => simp [intOf]; omega
            · have HN : Hid (KDf tk tx (k + 1) = KDf tk tx k) := Lib.hid (by unfold KDf; rw [if_pos H0.out, if_pos H0.out, Dr.kdUp, if_neg (by rw [hD]; exact hw)])
              have he : (tx == D) = false := by simp; exact fun e => hw e.symm
              clear hD hw
              go_wp2_with (go_at_call 24; refine (HC.out _).mono ?_; rintro e w' ⟨⟨a, b, c, rfl⟩, rfl⟩)
              go_round
              case rel => exact ⟨k + 1, by omega, by go_num, by rw [HN.out]⟩
              case measure => simp [intOf]; omega
          · have HN : Hid (KDf tk tx (k + 1) = KDf tk tx k) := Lib.hid (by unfold KDf; rw [if_neg h0, if_neg h0])
            have e0 : ((tk : Int) == 0) = false := by simp; omega
            clear hD
            go_wp2_with (go_at_call 24; refine (HC.out _).mono ?_; rintro e w' ⟨⟨a, b, c, rfl⟩, rfl⟩)
            go_round
            case rel => exact ⟨k + 1, by omega, by go_num, by rw [HN.out]⟩
            case measure => simp [intOf]; omega
        · obtain rfl : k = 6 := by omega
          by_cases h0 : tk = 0
          · have e0 : ((tk : Int) == 0) = true := by rw [h0]; rfl
            obtain ⟨KD, hKD⟩ : ∃ KD, KDf tk tx 6 = KD := ⟨_, rfl⟩
            rw [hKD]
            have hKU : Dr.kdUp tx 6 = KD := by rw [← hKD]; unfold KDf; rw [if_pos h0]
            have HKU := Lib.hid hKU
            have H0 := Lib.hid h0
            obtain ⟨dv, iv, hdd, hD, hI⟩ := HA0.out.dd
            obtain ⟨dl, hdl⟩ : ∃ dl, dl = d.decks.length := ⟨_, rfl⟩
            have HDL := Lib.hid hdl
            obtain ⟨dvs, c, hdv, hdvl, hbc, hcw, hdk⟩ := hD
            rw [← hdl] at hdv
            obtain ⟨da, dc, rfl, hla⟩ := own_slice hdv
            have c5 : wt.cell? ⟨w2.heap.size, 0, none⟩ = some (.slice da dl dc) := cell_of_heap hdd 0 rfl
            obtain ⟨kn, hkn⟩ : ∃ kn, knw tx dl KD = kn := ⟨_, rfl⟩
            have HKN := Lib.hid hkn
            clear hdd hdv hdvl hdk hI hdl hkn hKD hKU h0 hbc hcw
            go_upto_region 18 with fail
            go_cut [18] (fun v wx => v = .bool kn ∧ wt = wx)
            case first =>
              as_aux_lemma =>
              by_cases g1 : tx = Dr.wDeck
              · have e5 : (tx == [100, 101, 99, 107]) = true := by rw [g1]; rfl
                obtain rfl : true = kn := by rw [← HKN.out]; unfold knw; simp [g1]
                clear g1
                go_wp2_with fail
                go_meet
                exact ⟨rfl, rfl⟩
              · have e5 : (tx == [100, 101, 99, 107]) = false := beq_eq_false_iff_ne.2 g1
                by_cases g2 : tx = Dr.wRow
                · have e6 : (tx == [114, 111, 119]) = true := by rw [g2]; rfl
                  by_cases g3 : 0 < dl
                  · obtain rfl : true = kn := by rw [← HKN.out]; unfold knw; simp [g2, g3]
                    have g4 : (0 : Int) < (dl : Int) := by omega
                    clear g1 g2 g3
                    go_wp2_with fail
                    go_meet
                    exact ⟨rfl, rfl⟩
                  · obtain rfl : KD = -1 := by rw [← HKU.out, g2]; decide
                    obtain rfl : false = kn := by rw [← HKN.out]; unfold knw; simp [g1, g3]
                    have g4 : (dl : Int) ≤ 0 := by omega
                    clear g1 g2 g3
                    go_wp2_with fail
                    go_meet
                    exact ⟨rfl, rfl⟩
                · have e6 : (tx == [114, 111, 119]) = false := beq_eq_false_iff_ne.2 g2
                  by_cases g4 : 0 ≤ KD
                  · obtain rfl : true = kn := by rw [← HKN.out]; unfold knw; simp [g4]
                    clear g1 g2
                    go_wp2_with fail
                    go_meet
                    exact ⟨rfl, rfl⟩
                  · obtain rfl : false = kn := by rw [← HKN.out]; unfold knw; simp [g1, g2]; omega
                    have g5 : KD < 0 := by omega
                    clear g1 g2 g4
                    go_wp2_with fail
                    go_meet
                    exact ⟨by simp; omega, rfl⟩
            case rest =>
              obtain ⟨rfl, rfl⟩ := hcut
              cases kn with
              | false =>
                as_aux_lemma =>
                have HGe := Lib.hid (knw_no HS.out.eq HTP.out H0.out (by have := HKN.out; rw [HDL.out, ← HKU.out] at this; exact this))
                clear c5
                go_wp2_with fail
                go_region
                go_wp2_with fail
                (try simp only [Exit.inBlock, Exit.then])
                refine bodyPost_ret (v := .tuple #[.agg #[.slice none 0 0, .slice none 0 0], .int .i64 11, .int .i64 tl]) (by simp [results, Tryz.results10, go_sem, *]) rfl (.bad HGe.out rfl rfl ?_)
                exact ((HB1.out.drew.setCell (Nat.le_refl _) _).setCell (Nat.le_refl _) _)
              | true =>
                have HKY := Lib.hid (knw_yes (t := ⟨tk, tx, tn, tl⟩) (d := d) (by have := HKN.out; rw [HDL.out, ← HKU.out] at this; exact this))
                have HA1 := Lib.hid (HA0.out.at1 (by omega))
                have c1 : wt.cell? ⟨w2.heap.size + 1, 1, none⟩ = some (.int .i64 p) := by
                  obtain ⟨g2, cap2, h0, -⟩ := HA0.out.rd
                  exact cell_of_heap h0 1 rfl
                have f1 : wt.frozen? ⟨w2.heap.size + 1, 1, none⟩ = false := by
                  obtain ⟨g2, cap2, h0, -⟩ := HA0.out.rd
                  exact free_of_heap h0 1
                have hpm := Dr.more_toks HEN.out HTP.out HK4.out
                go_upto_if 120 with (fail)
                generalize wt.setCell ⟨w2.heap.size + 1, 1, none⟩ (.int .i64 ((p : Int) + 1)) = wv at HA1 ⊢
                clear q0 q1 q3 d0 d1 f0 f2 c1 f1 c5 HA0 HB1 D0
                go_cut [17] (fun v wx => Hid (MidC (w2.heap.size + 1) w2.heap.size ts G w2 tb p tl ⟨tk, tx, tn, tl⟩ v wx))
                case first =>
                  have q1 : wv.cell? ⟨tb, 1, none⟩ = some (.string ⟨tx.toArray⟩) := cell_of_heap HA1.out.ht 1 rfl
                  have hrl : w2.heap.size + 1 < wv.heap.size := HA1.out.rd.lt
                  rcases HKY.out with g1 | ⟨g1, g2, g3⟩ | ⟨g1, g2, kk, g3, g4, g5⟩
                  · as_aux_lemma =>
                    have e5 : (tx == [100, 101, 99, 107]) = true := by rw [show tx = Dr.wDeck from g1]; rfl
                    rw [e5]
                    have G1 := Lib.hid g1
                    obtain ⟨dv, iv, hdd, hD, hI⟩ := HA1.out.dd
                    have HD1 := hD.nb ((NB.refl (w2.heap.size + 1) wv).alloc (.cells #[.slice none 0 0] 45))
                    have HI1 := Lib.hid (hI.nb ((NB.refl (w2.heap.size + 1) wv).alloc (.cells #[.slice none 0 0] 45)))
                    have HAA := Lib.hid (HA1.out.rb.alloc (by omega) (.cells #[.slice none 0 0] 45))
                    obtain ⟨dvs, c, hdv, hdvl, hbc, hcw, hdk⟩ := HD1
                    have HCW := Lib.hid hcw
                    have HDK := Lib.hid hdk
                    have HDVL := Lib.hid hdvl
                    have HDV := Lib.hid hdv
                    rw [← HDL.out] at hdv
                    obtain ⟨da, dc, rfl, hla⟩ := own_slice hdv
                    have HDW := Lib.hid hdv
                    have c5 : wv.cell? ⟨w2.heap.size, 0, none⟩ = some (.slice da dl dc) := cell_of_heap hdd 0 rfl
                    have hdl2 : w2.heap.size < wv.heap.size := by omega
                    have HDD := Lib.hid ((heap_alloc_old wv (.cells #[.slice none 0 0] 45) hdl2).trans hdd)
                    have hd4 : dl ≤ 4 := by rw [HDL.out]; exact HS.out.sz
                    have hts : 0 < ts.length := by omega
                    have HPM := Lib.hid hpm
                    clear hdd hD hI hdk hdvl hdv g1 hcw hpm
                    by_cases h4 : 4 ≤ dl
                    · have h4I : (4 : Int) ≤ (dl : Int) := by omega
                      have HG6 := Lib.hid (Dr.mid_deck_full HS.out.eq HTP.out H0.out G1.out (by rw [← HDL.out]; exact h4))
                      go_wp2_with (at_builtin; refine wpList_app_deck rfl _ _ rfl (w2.heap.size + 1 + 1) _ dl dvs rfl HDW.out wv.heap.size 1 (.slice none 0 0) rfl rfl (heap_alloc_new _ _) (by omega) ?q1 ?q2)
                      case q1 => (try simp); omega
                      case q2 =>
                        intro v' w6 h1 h2
                        obtain ⟨na2, nca2, rfl, -⟩ := own_slice h1
                        obtain rfl := HDL.out
                        obtain ⟨x1, x2, x3, x4, x5⟩ := RB.deck HAA.out (by omega) hts HDD.out HI1.out HDV.out HDVL.out hbc HCW.out HDK.out h1 h2
                        have X2 := Lib.hid x2
                        have X3 := Lib.hid x3
                        have y1 := cell_of_heap x1 0 rfl
                        have y2 := free_of_heap x1 0
                        clear h1 h2 x1 x2 x3 x4 x5
                        go_wp2_with fail
                        go_meet
                        exact Lib.hid ⟨X2.out, X3.out, .inl ⟨rfl, HG6.out⟩⟩
                    · have h4I : (dl : Int) < 4 := by omega
                      have HG6 := Lib.hid (Dr.mid_deck HEN.out HS.out.eq HTP.out H0.out G1.out (by rw [← HDL.out]; omega))
                      go_wp2_with (at_builtin; refine wpList_app_deck rfl _ _ rfl (w2.heap.size + 1 + 1) _ dl dvs rfl HDW.out wv.heap.size 1 (.slice none 0 0) rfl rfl (heap_alloc_new _ _) (by omega) ?q1 ?q2)
                      case q1 => (try simp); omega
                      case q2 =>
                        intro v' w6 h1 h2
                        obtain ⟨na2, nca2, rfl, -⟩ := own_slice h1
                        obtain rfl := HDL.out
                        obtain ⟨x1, x2, x3, x4, x5⟩ := RB.deck HAA.out (by omega) hts HDD.out HI1.out HDV.out HDVL.out hbc HCW.out HDK.out h1 h2
                        have X2 := Lib.hid x2
                        have X3 := Lib.hid x3
                        have X4 := Lib.hid x4
                        have X5 := Lib.hid x5
                        have y1 := cell_of_heap x1 0 rfl
                        have y2 := free_of_heap x1 0
                        clear h1 h2 x1 x2 x3 x4 x5
                        go_wp2_with fail
                        go_meet
                        exact Lib.hid ⟨X2.out, X3.out, .inr ⟨by simp; omega, _, p + 1, false, fun _ => by omega, by simp; omega, X4.out, X5.out, HG6.out⟩⟩
                  · have e5 : (tx == [100, 101, 99, 107]) = false := beq_eq_false_iff_ne.2 g1
                    rw [e5]
                    have e6 : (tx == [114, 111, 119]) = true := by rw [show tx = Dr.wRow from g2]; rfl
                    have hne : d.decks ≠ [] := by intro e; rw [e] at g3; exact absurd g3 (by simp)
                    have G2 := Lib.hid g2
                    have HNE := Lib.hid hne
                    obtain ⟨gd, cd, m, a2, ca2, iv, dvs, c, x0, x1, -, -, -, -, -, -, x2, -, hbg, hgl, -, hm9⟩ := HA1.out.dd.lastRow hne
                    have HM1 := Lib.hid x1
                    clear x1
                    obtain ⟨last, hlast⟩ : ∃ last, d.decks.getLastD [] = last := ⟨_, rfl⟩
                    rw [hlast] at x2
                    obtain ⟨k9, hk9⟩ : ∃ k9, k9 = last.length := ⟨_, rfl⟩
                    rw [← hk9] at x2
                    have HLA := Lib.hid hlast
                    have HK9 := Lib.hid hk9
                    have c5 : wv.cell? ⟨w2.heap.size, 0, none⟩ = some (.slice (some ⟨gd, 0, none⟩) (m + 1) cd) := cell_of_heap x0 0 rfl
                    have mI0 : (0 : Int) ≤ (m : Int) := by omega
                    have mI1 : (m : Int) < (m : Int) + 1 := by omega
                    have mI2 : (m : Int).toNat = m := by omega
                    have mI5 : IntKind.i64.wrap (m : Int) = (m : Int) := IntWalk.i64_in _ (by omega)
                    clear x0 hlast hk9 hne g1 g2 g3
                    by_cases h4 : 4096 ≤ k9
                    · have h4I : (4096 : Int) ≤ (k9 : Int) := by omega
                      have HG6 := Lib.hid (Dr.mid_row_full HS.out.eq HTP.out H0.out G2.out HNE.out (by rw [HLA.out, ← HK9.out]; exact h4))
                      go_wp2_with fail
                      go_meet
                      exact Lib.hid ⟨HA1.out.ht, HA1.out.bel, .inl ⟨by first | rfl | (simp; omega), HG6.out⟩⟩
                    · have h4I : (k9 : Int) < 4096 := by omega
                      have h4D : decide ((4096 : Int) ≤ (k9 : Int)) = false := decide_eq_false (by omega)
                      have h4n : k9 < 4096 := Nat.lt_of_not_le h4
                      go_wp2_with fail
                      go_at_call 25; refine (rtake_any (w2.heap.size + 1) (p + 1) 2 false ts _ HA1.out.rd hpm _ rfl).mono ?_; rintro e w5 ⟨T, N, q, bad, K, L, rfl, hn, hr, ht⟩
                      have HM := Lib.hid (Dr.mid_row HEN.out HS.out.eq HTP.out H0.out G2.out HNE.out (by rw [HLA.out, ← HK9.out]; exact h4n) ht)
                      have ft : (Instr.field 42 (.agg #[.int .i64 K, .string ⟨T.toArray⟩, .int .i64 N, .int .i64 L]) 1).run Tryz.prog w5 = _ := tokText K N L ⟨T.toArray⟩ w5
                      have RB5 := Lib.hid (HA1.out.rb.next (by omega) hn hr)
                      have hxs := lit_size2 T
                      have HPQ : Hid (bad = false → p < q) := Lib.hid (fun _ => by rcases ht with ⟨-, -, rfl, -⟩ | ⟨-, -, -, rfl, -⟩ <;> omega)
                      clear c5 x2 hn hr ht
                      go_upto_region 31 with fail
                      clear ft
                      have hHB : w2.heap.size < w5.heap.size := RB5.out.dd.lt
                      obtain ⟨gd5, cd5, m2, a5, ca5, iv5, dvs5, c9, x0, x1, xI, xdv, xdl, xbc, xcw, xdk, x2, xou, hbg5, hgl5, xfz, -⟩ := RB5.out.dd.lastRow HNE.out
                      obtain rfl : m2 = m := by have := HM1.out; omega
                      rw [HLA.out] at x2 xou
                      rw [← HK9.out] at x2 xou
                      have HX0 := Lib.hid x0
                      have HX1 := Lib.hid x1
                      have HXI := Lib.hid xI
                      have HXDV := Lib.hid xdv
                      have HXDL := Lib.hid xdl
                      have HXDK := Lib.hid xdk
                      have HXOU := Lib.hid xou
                      have HXCW := Lib.hid xcw
                      have c6 : w5.cell? ⟨w2.heap.size, 0, none⟩ = some (.slice (some ⟨gd5, 0, none⟩) (m2 + 1) cd5) := cell_of_heap x0 0 rfl
                      have hgx : gd5 ≠ w2.heap.size := by omega
                      clear x0 x1 xI xdv xdl xdk xou xcw hxs
                      have h9m : k9 ≤ 4096 := Nat.le_of_lt h4n
                      have h9a : k9 ≤ maxLen := Nat.le_trans h9m (by unfold maxLen; decide)
                      have SU := Lib.hid (Sl.of_own HXOU.out (by rw [← HK9.out]; exact h9a))
                      have h9b : k9 * 16 ≤ 140737488355328 := Nat.le_trans (Nat.mul_le_mul_right 16 h9m) (by decide)
                      have h9c : k9 + 1 ≤ maxLen := Nat.le_trans (Nat.succ_le_succ h9m) (by unfold maxLen; decide)
                      have h9d : (k9 + 1) * 16 ≤ 140737488355328 := Nat.le_trans (Nat.mul_le_mul_right 16 (Nat.succ_le_succ h9m)) (by decide)
                      have HN9 : Hid (0 + (strs last).length = k9) := Lib.hid (by rw [strs_len2, ← HK9.out, Nat.zero_add])
                      have HSO := Lib.hid (strs_each last)
                      have WA : Hid (Below w5.heap.size w5 (w5.alloc (.cells #[] 9)).drew) := Lib.hid (((Below.refl _ w5).alloc (Nat.le_refl _) _).drew)
                      have WC : Hid (Below w5.heap.size w5 ((w5.alloc (.cells #[] 9)).alloc (.cells #[.string ⟨T.toArray⟩] 9)).drew) := Lib.hid ((((Below.refl _ w5).alloc (Nat.le_refl _) _).alloc (by simp) _).drew)
                      have WB : Hid (Below w5.heap.size w5 ((w5.alloc (.cells #[.string ⟨T.toArray⟩] 9)).alloc (.cells #[] 9)).drew) := Lib.hid ((((Below.refl _ w5).alloc (Nat.le_refl _) _).alloc (by simp) _).drew)
                      have o0 := World.ownsRow_lit (base := w5.heap.size) (e := 9) (size := 1) w5 #[] 0 (Nat.le_refl _) (by unfold maxLen; omega) rfl
                      have OA : Hid (((w5.alloc (.cells #[] 9)).drew).ownsRow w5.heap.size 9 1 (.slice (some ⟨w5.heap.size, 0, none⟩) 0 0) 0 []) := Lib.hid o0.drew
                      have OC : Hid ((((w5.alloc (.cells #[] 9)).alloc (.cells #[.string ⟨T.toArray⟩] 9)).drew).ownsRow w5.heap.size 9 1 (.slice (some ⟨w5.heap.size, 0, none⟩) 0 0) 0 []) := Lib.hid ((World.ownsRow.alloc o0 _).drew)
                      have o1 := World.ownsRow_lit (base := w5.heap.size) (e := 9) (size := 1) (w5.alloc (.cells #[.string ⟨T.toArray⟩] 9)) #[] 0 (by simp) (by unfold maxLen; omega) rfl
                      rw [show (w5.alloc (.cells #[.string ⟨T.toArray⟩] 9)).heap.size = w5.heap.size + 1 by simp] at o1
                      have OB : Hid ((((w5.alloc (.cells #[.string ⟨T.toArray⟩] 9)).alloc (.cells #[] 9)).drew).ownsRow w5.heap.size 9 1 (.slice (some ⟨w5.heap.size + 1, 0, none⟩) 0 0) 0 []) := Lib.hid o1.drew
                      have ZB : Hid ((((w5.alloc (.cells #[.string ⟨T.toArray⟩] 9)).alloc (.cells #[] 9)).drew).heap[w5.heap.size]? = some (.cells #[.string ⟨T.toArray⟩] 9 (0, 0))) := Lib.hid ((heap_alloc_old _ _ (by simp)).trans (heap_alloc_new _ _))
                      have ZC : Hid ((((w5.alloc (.cells #[] 9)).alloc (.cells #[.string ⟨T.toArray⟩] 9)).drew).heap[w5.heap.size + 1]? = some (.cells #[.string ⟨T.toArray⟩] 9 (0, 0))) := Lib.hid (heap_two3 _ _ _)
                      clear o0 o1
                      refine wp_region_x (S := fun w' => w'.cell? ⟨w2.heap.size, 0, none⟩ = some (.slice (some ⟨gd5, 0, none⟩) (m2 + 1) cd5) ∧ w'.cell? ⟨gd5, m2, none⟩ = some (.slice a5 k9 ca5)) (L := 14) (by kernel_rfl) ?_ (fun hHeld => ?_)
                      · go_keep
                      refine wpAnyX_take (i := 0) (v := ?v0) [1, 13, 14] (by kernel_rfl) rfl (by kernel_rfl) (by kernel_rfl) (by kernel_rfl) (fun _ _ _ h => h) (Or.inl ⟨by rfl, ?y0⟩) (by assumption) ?_
                      case y0 => (intro w hSw; (try dsimp only at hSw); go_simp; try (with_reducible rfl))
                      try simp only [Act.put, List.setIfInBounds_toArray, List.set_cons_zero, List.set_cons_succ]
                      refine wpAnyX_take (i := 1) (v := ?v1) [13, 14] (by kernel_rfl) rfl (by kernel_rfl) (by kernel_rfl) (by kernel_rfl) (fun _ _ _ h => h) (Or.inl ⟨by rfl, ?y1⟩) (by assumption) ?_
                      case y1 => (intro w hSw; (try dsimp only at hSw); go_simp; try (with_reducible rfl))
                      try simp only [Act.put, List.setIfInBounds_toArray, List.set_cons_zero, List.set_cons_succ]
                      refine wpAnyX_take (i := 2) (v := ?v2) [13, 14] (by kernel_rfl) rfl (by kernel_rfl) (by kernel_rfl) (by kernel_rfl) (fun _ _ _ h => h) (Or.inl ⟨by rfl, ?y2⟩) (by assumption) ?_
                      case y2 => (intro w hSw; (try dsimp only at hSw); go_simp; try (with_reducible rfl))
                      try simp only [Act.put, List.setIfInBounds_toArray, List.set_cons_zero, List.set_cons_succ]
                      refine wpAnyX_take (i := 4) (v := ?v4) [5, 7, 8, 9, 12, 14] (by kernel_rfl) rfl (by kernel_rfl) (by kernel_rfl) (by kernel_rfl) (fun _ _ _ h => h) (Or.inl ⟨by rfl, ?y4⟩) (by assumption) ?_
                      case y4 => (intro w hSw; (try dsimp only at hSw); go_simp; try (with_reducible rfl))
                      try simp only [Act.put, List.setIfInBounds_toArray, List.set_cons_zero, List.set_cons_succ]
                      refine wpAnyX_take (i := 5) (v := ?v5) [7, 8, 9, 12, 14] (by kernel_rfl) rfl (by kernel_rfl) (by kernel_rfl) (by kernel_rfl) (fun _ _ _ h => h) (Or.inl ⟨by rfl, ?y5⟩) (by assumption) ?_
                      case y5 => (intro w hSw; (try dsimp only at hSw); go_simp; try (with_reducible rfl))
                      try simp only [Act.put, List.setIfInBounds_toArray, List.set_cons_zero, List.set_cons_succ]
                      refine wpAnyX_take (i := 6) (v := ?v6) [7, 8, 9, 12, 14] (by kernel_rfl) rfl (by kernel_rfl) (by kernel_rfl) (by kernel_rfl) (fun _ _ _ h => h) (Or.inl ⟨by rfl, ?y6⟩) (by assumption) ?_
                      case y6 => (intro w hSw; (try dsimp only at hSw); go_simp; try (with_reducible rfl))
                      try simp only [Act.put, List.setIfInBounds_toArray, List.set_cons_zero, List.set_cons_succ]
                      refine wpAnyX_take (i := 7) (v := ?v7) [8, 9, 12, 14] (by kernel_rfl) rfl (by kernel_rfl) (by kernel_rfl) (by kernel_rfl) (fun _ _ _ h => h) (Or.inl ⟨by rfl, ?y7⟩) (by assumption) ?_
                      case y7 => (intro w hSw; (try dsimp only at hSw); go_simp; try (with_reducible rfl))
                      try simp only [Act.put, List.setIfInBounds_toArray, List.set_cons_zero, List.set_cons_succ]
                      refine wpAnyX_take (i := 8) (v := ?v8) [9, 12, 14] (by kernel_rfl) rfl (by kernel_rfl) (by kernel_rfl) (by kernel_rfl) (fun _ _ _ h => h) (Or.inl ⟨by rfl, ?y8⟩) (by assumption) ?_
                      case y8 => (intro w hSw; (try dsimp only at hSw); go_simp; try (with_reducible rfl))
                      try simp only [Act.put, List.setIfInBounds_toArray, List.set_cons_zero, List.set_cons_succ]
                      refine wpAnyX_take (i := 10) (v := ?v10) [11, 12, 14] (by kernel_rfl) rfl (by kernel_rfl) (by kernel_rfl) (by kernel_rfl) (fun _ _ _ h => h) (Or.inl ⟨by rfl, ?y10⟩) (by assumption) ?_
                      case y10 => (intro w hSw; (try dsimp only at hSw); go_simp; try (with_reducible rfl))
                      try simp only [Act.put, List.setIfInBounds_toArray, List.set_cons_zero, List.set_cons_succ]
                      refine wpAnyX_ready (rs := [3, 11]) (by kernel_rfl) (by simp) ?_
                      refine AllX.cons rfl (fun K hK => ?_) ?_
                      · go_simp
                        refine hK.out _ _ (fun _ => by go_keep) (fun hHeld2 => ?_)
                        clear hK K hHeld2
                        try simp only [Act.put, List.setIfInBounds_toArray, List.set_cons_zero, List.set_cons_succ]
                        refine wpAnyX_ready (rs := [9, 11]) (by kernel_rfl) (by simp) ?_
                        refine AllX.cons rfl (fun K hK => ?_) ?_
                        · refine step_append_sl (by rfl) _ _ 45 (by rfl) w5.heap.size 9 _ 16 Tryz.underlying45 Tryz.strInfo rfl (.slice (some ⟨w5.heap.size, 0, none⟩) 0 0) 0 [] (by rfl) OA.out (.slice a5 k9 ca5) (strs last) (by rfl) (SU.out.below WA.out) HSO.out k9 (strs last) HN9.out (by rfl) h9a h9b (by first | (simp; done) | (simp; exact Nat.le_add_right _ 2)) ?_
                          intro aa ca u1 ho1 hg1
                          have bu1 : Below w5.heap.size w5 u1 := WA.out.grown hg1 (by first | (simp; done) | (simp; exact Nat.le_add_right _ 2)) (fun k hk => (World.ownsRow.lt OA.out k hk).1)
                          have k0 := (bu1.cell (p := ⟨w2.heap.size, 0, none⟩) hHB).trans c6
                          have k1 := (bu1.cell (p := ⟨gd5, m2, none⟩) hgl5).trans x2
                          have HO1 := Lib.hid ho1
                          have BU1 := Lib.hid bu1
                          clear ho1 hg1 bu1
                          refine hK.out _ _ (fun _ => ⟨k0, k1⟩) (fun hHeld2 => ?_)
                          clear hK K hHeld2
                          try simp only [Act.put, List.setIfInBounds_toArray, List.set_cons_zero, List.set_cons_succ]
                          refine wpAnyX_ready (rs := [11]) (by kernel_rfl) (by simp) ?_
                          refine AllX.cons rfl (fun K hK => ?_) ?_
                          · go_simp
                            refine hK.out _ _ (fun _ => by go_keep) (fun hHeld2 => ?_)
                            clear hK K hHeld2
                            try simp only [Act.put, List.setIfInBounds_toArray, List.set_cons_zero, List.set_cons_succ]
                            refine wpAnyX_ready (rs := [12]) (by kernel_rfl) (by simp) ?_
                            refine AllX.cons rfl (fun K hK => ?_) ?_
                            · refine step_append_sl (by rfl) _ _ 45 (by rfl) w5.heap.size 9 _ 16 Tryz.underlying45 Tryz.strInfo rfl (.slice aa k9 ca) k9 (strs last) (by rfl) (World.ownsRow.alloc HO1.out _) (.slice (some ⟨u1.heap.size, 0, none⟩) 1 1) [.string ⟨T.toArray⟩] (by rfl) (sl_one (heap_alloc_new u1 _)) one_str (k9 + 1) (strs last ++ [.string ⟨T.toArray⟩]) rfl rfl h9c h9d (by have := BU1.out.size; simp; omega) ?_
                              intro aw cw u2 ho2 hg2
                              have bu2 : Below w5.heap.size w5 u2 := (BU1.out.alloc BU1.out.size _).grown hg2 (by have := BU1.out.size; simp; omega) (fun k hk => (World.ownsRow.lt HO1.out k hk).1)
                              have j0 := (bu2.cell (p := ⟨w2.heap.size, 0, none⟩) hHB).trans c6
                              have j1 := (bu2.cell (p := ⟨gd5, m2, none⟩) hgl5).trans x2
                              have j2 := (bu2.frozen (p := ⟨gd5, m2, none⟩) hgl5).trans xfz
                              have HO2 := Lib.hid ho2
                              have BU2 := Lib.hid bu2
                              clear ho2 hg2 bu2
                              refine hK.out _ _ (fun _ => ⟨j0, j1⟩) (fun hHeld2 => ?_)
                              clear hK K hHeld2
                              try simp only [Act.put, List.setIfInBounds_toArray, List.set_cons_zero, List.set_cons_succ]
                              refine wpAnyX_ready (rs := [13]) (by kernel_rfl) (by simp) ?_
                              refine AllX.cons rfl (fun K hK => ?_) ?_
                              · go_simp
                                refine hK.out _ _ (fun _ => ⟨j0, j1⟩) (fun hHeld2 => ?_)
                                clear hK K hHeld2
                                try simp only [Act.put, List.setIfInBounds_toArray, List.set_cons_zero, List.set_cons_succ]
                                refine wpAnyX_ready (rs := [14]) (by kernel_rfl) (by simp) ?_
                                refine AllX.cons rfl (fun K hK => ?_) ?_
                                · go_simp
                                  refine hK.out _ _ (fun h => absurd rfl h) (fun hHeld2 => ?_)
                                  clear hK K hHeld2
                                  try simp only [Act.put, List.setIfInBounds_toArray, List.set_cons_zero, List.set_cons_succ]
                                  refine wpAnyX_done (by kernel_rfl) ?_ _
                                  obtain rfl := HK9.out
                                  obtain ⟨z0, z1, z2, z3, z4⟩ := RB.row RB5.out (by omega) (by omega) HX0.out HXI.out HX1.out.symm rfl HXDV.out HXDL.out xbc HXCW.out HXDK.out HO2.out BU2.out
                                  rw [bs_lit0] at z4
                                  have hm := HM.out
                                  rw [HLA.out] at hm
                                  have Z1 := Lib.hid z1
                                  have Z2 := Lib.hid z2
                                  have Z3 := Lib.hid z3
                                  have Z4 := Lib.hid z4
                                  have HM3 := Lib.hid hm
                                  clear z0 z1 z2 z3 z4 hm HM
                                  go_wp2_with fail
                                  go_meet
                                  by_cases hT : 4096 < T.length
                                  · exact Lib.hid ⟨Z1.out, Z2.out, .inl ⟨by simp; omega, HM3.out.1 hT⟩⟩
                                  · exact Lib.hid ⟨Z1.out, Z2.out, .inr ⟨by simp; omega, ⟨d.decks.dropLast ++ [last ++ [T]], d.items⟩, q, bad, HPQ.out, by rw [List.length_append, List.length_dropLast]; have := HS.out.sz; have := HX1.out; simp; omega, Z3.out, Z4.out, HM3.out.2 (by omega)⟩⟩
                                · exact AllX.nil
                              · exact AllX.nil
                            · exact AllX.nil
                          · exact AllX.nil
                        refine AllX.cons rfl (fun K hK => ?_) ?_
                        · go_simp
                          refine hK.out _ _ (fun _ => by go_keep) (fun hHeld2 => ?_)
                          clear hK K hHeld2
                          try simp only [Act.put, List.setIfInBounds_toArray, List.set_cons_zero, List.set_cons_succ]
                          refine wpAnyX_ready (rs := [9]) (by kernel_rfl) (by simp) ?_
                          refine AllX.cons rfl (fun K hK => ?_) ?_
                          · refine step_append_sl (by rfl) _ _ 45 (by rfl) w5.heap.size 9 _ 16 Tryz.underlying45 Tryz.strInfo rfl (.slice (some ⟨w5.heap.size, 0, none⟩) 0 0) 0 [] (by rfl) OC.out (.slice a5 k9 ca5) (strs last) (by rfl) (SU.out.below WC.out) HSO.out k9 (strs last) HN9.out (by rfl) h9a h9b (by first | (simp; done) | (simp; exact Nat.le_add_right _ 2)) ?_
                            intro aa ca u1 ho1 hg1
                            have bu1 : Below w5.heap.size w5 u1 := WC.out.grown hg1 (by first | (simp; done) | (simp; exact Nat.le_add_right _ 2)) (fun k hk => (World.ownsRow.lt OC.out k hk).1)
                            have hz1 : u1.heap[w5.heap.size + 1]? = some (.cells #[.string ⟨T.toArray⟩] 9 (0, 0)) := (hg1.block _ (by first | (simp; done) | (simp; exact Nat.lt_succ_of_lt (Nat.lt_succ_self _))) (by simp [Value.ownBlock])).trans ZC.out
                            have HZ1 := Lib.hid hz1
                            clear hz1
                            have k0 := (bu1.cell (p := ⟨w2.heap.size, 0, none⟩) hHB).trans c6
                            have k1 := (bu1.cell (p := ⟨gd5, m2, none⟩) hgl5).trans x2
                            have HO1 := Lib.hid ho1
                            have BU1 := Lib.hid bu1
                            clear ho1 hg1 bu1
                            refine hK.out _ _ (fun _ => ⟨k0, k1⟩) (fun hHeld2 => ?_)
                            clear hK K hHeld2
                            try simp only [Act.put, List.setIfInBounds_toArray, List.set_cons_zero, List.set_cons_succ]
                            refine wpAnyX_ready (rs := [12]) (by kernel_rfl) (by simp) ?_
                            refine AllX.cons rfl (fun K hK => ?_) ?_
                            · refine step_append_sl (by rfl) _ _ 45 (by rfl) w5.heap.size 9 _ 16 Tryz.underlying45 Tryz.strInfo rfl (.slice aa k9 ca) k9 (strs last) (by rfl) HO1.out (.slice (some ⟨w5.heap.size + 1, 0, none⟩) 1 1) [.string ⟨T.toArray⟩] (by rfl) (sl_one HZ1.out) one_str (k9 + 1) (strs last ++ [.string ⟨T.toArray⟩]) rfl rfl h9c h9d BU1.out.size ?_
                              intro aw cw u2 ho2 hg2
                              have bu2 : Below w5.heap.size w5 u2 := BU1.out.grown hg2 BU1.out.size (fun k hk => (World.ownsRow.lt HO1.out k hk).1)
                              have j0 := (bu2.cell (p := ⟨w2.heap.size, 0, none⟩) hHB).trans c6
                              have j1 := (bu2.cell (p := ⟨gd5, m2, none⟩) hgl5).trans x2
                              have j2 := (bu2.frozen (p := ⟨gd5, m2, none⟩) hgl5).trans xfz
                              have HO2 := Lib.hid ho2
                              have BU2 := Lib.hid bu2
                              clear ho2 hg2 bu2
                              refine hK.out _ _ (fun _ => ⟨j0, j1⟩) (fun hHeld2 => ?_)
                              clear hK K hHeld2
                              try simp only [Act.put, List.setIfInBounds_toArray, List.set_cons_zero, List.set_cons_succ]
                              refine wpAnyX_ready (rs := [13]) (by kernel_rfl) (by simp) ?_
                              refine AllX.cons rfl (fun K hK => ?_) ?_
                              · go_simp
                                refine hK.out _ _ (fun _ => ⟨j0, j1⟩) (fun hHeld2 => ?_)
                                clear hK K hHeld2
                                try simp only [Act.put, List.setIfInBounds_toArray, List.set_cons_zero, List.set_cons_succ]
                                refine wpAnyX_ready (rs := [14]) (by kernel_rfl) (by simp) ?_
                                refine AllX.cons rfl (fun K hK => ?_) ?_
                                · go_simp
                                  refine hK.out _ _ (fun h => absurd rfl h) (fun hHeld2 => ?_)
                                  clear hK K hHeld2
                                  try simp only [Act.put, List.setIfInBounds_toArray, List.set_cons_zero, List.set_cons_succ]
                                  refine wpAnyX_done (by kernel_rfl) ?_ _
                                  obtain rfl := HK9.out
                                  obtain ⟨z0, z1, z2, z3, z4⟩ := RB.row RB5.out (by omega) (by omega) HX0.out HXI.out HX1.out.symm rfl HXDV.out HXDL.out xbc HXCW.out HXDK.out HO2.out BU2.out
                                  rw [bs_lit0] at z4
                                  have hm := HM.out
                                  rw [HLA.out] at hm
                                  have Z1 := Lib.hid z1
                                  have Z2 := Lib.hid z2
                                  have Z3 := Lib.hid z3
                                  have Z4 := Lib.hid z4
                                  have HM3 := Lib.hid hm
                                  clear z0 z1 z2 z3 z4 hm HM
                                  go_wp2_with fail
                                  go_meet
                                  by_cases hT : 4096 < T.length
                                  · exact Lib.hid ⟨Z1.out, Z2.out, .inl ⟨by simp; omega, HM3.out.1 hT⟩⟩
                                  · exact Lib.hid ⟨Z1.out, Z2.out, .inr ⟨by simp; omega, ⟨d.decks.dropLast ++ [last ++ [T]], d.items⟩, q, bad, HPQ.out, by rw [List.length_append, List.length_dropLast]; have := HS.out.sz; have := HX1.out; simp; omega, Z3.out, Z4.out, HM3.out.2 (by omega)⟩⟩
                                · exact AllX.nil
                              · exact AllX.nil
                            · exact AllX.nil
                          · exact AllX.nil
                        · exact AllX.nil
                      refine AllX.cons rfl (fun K hK => ?_) ?_
                      · go_simp
                        refine hK.out _ _ (fun _ => by go_keep) (fun hHeld2 => ?_)
                        clear hK K hHeld2
                        try simp only [Act.put, List.setIfInBounds_toArray, List.set_cons_zero, List.set_cons_succ]
                        refine wpAnyX_ready (rs := [3]) (by kernel_rfl) (by simp) ?_
                        refine AllX.cons rfl (fun K hK => ?_) ?_
                        · go_simp
                          refine hK.out _ _ (fun _ => by go_keep) (fun hHeld2 => ?_)
                          clear hK K hHeld2
                          try simp only [Act.put, List.setIfInBounds_toArray, List.set_cons_zero, List.set_cons_succ]
                          refine wpAnyX_ready (rs := [9]) (by kernel_rfl) (by simp) ?_
                          refine AllX.cons rfl (fun K hK => ?_) ?_
                          · refine step_append_sl (by rfl) _ _ 45 (by rfl) w5.heap.size 9 _ 16 Tryz.underlying45 Tryz.strInfo rfl (.slice (some ⟨w5.heap.size + 1, 0, none⟩) 0 0) 0 [] (by rfl) OB.out (.slice a5 k9 ca5) (strs last) (by rfl) (SU.out.below WB.out) HSO.out k9 (strs last) HN9.out (by rfl) h9a h9b (by first | (simp; done) | (simp; exact Nat.le_add_right _ 2)) ?_
                            intro aa ca u1 ho1 hg1
                            have bu1 : Below w5.heap.size w5 u1 := WB.out.grown hg1 (by first | (simp; done) | (simp; exact Nat.le_add_right _ 2)) (fun k hk => (World.ownsRow.lt OB.out k hk).1)
                            have hz1 : u1.heap[w5.heap.size]? = some (.cells #[.string ⟨T.toArray⟩] 9 (0, 0)) := (hg1.block _ (by first | (simp; done) | (simp; exact Nat.lt_succ_of_lt (Nat.lt_succ_self _))) (by simp [Value.ownBlock])).trans ZB.out
                            have HZ1 := Lib.hid hz1
                            clear hz1
                            have k0 := (bu1.cell (p := ⟨w2.heap.size, 0, none⟩) hHB).trans c6
                            have k1 := (bu1.cell (p := ⟨gd5, m2, none⟩) hgl5).trans x2
                            have HO1 := Lib.hid ho1
                            have BU1 := Lib.hid bu1
                            clear ho1 hg1 bu1
                            refine hK.out _ _ (fun _ => ⟨k0, k1⟩) (fun hHeld2 => ?_)
                            clear hK K hHeld2
                            try simp only [Act.put, List.setIfInBounds_toArray, List.set_cons_zero, List.set_cons_succ]
                            refine wpAnyX_ready (rs := [12]) (by kernel_rfl) (by simp) ?_
                            refine AllX.cons rfl (fun K hK => ?_) ?_
                            · refine step_append_sl (by rfl) _ _ 45 (by rfl) w5.heap.size 9 _ 16 Tryz.underlying45 Tryz.strInfo rfl (.slice aa k9 ca) k9 (strs last) (by rfl) HO1.out (.slice (some ⟨w5.heap.size, 0, none⟩) 1 1) [.string ⟨T.toArray⟩] (by rfl) (sl_one HZ1.out) one_str (k9 + 1) (strs last ++ [.string ⟨T.toArray⟩]) rfl rfl h9c h9d BU1.out.size ?_
                              intro aw cw u2 ho2 hg2
                              have bu2 : Below w5.heap.size w5 u2 := BU1.out.grown hg2 BU1.out.size (fun k hk => (World.ownsRow.lt HO1.out k hk).1)
                              have j0 := (bu2.cell (p := ⟨w2.heap.size, 0, none⟩) hHB).trans c6
                              have j1 := (bu2.cell (p := ⟨gd5, m2, none⟩) hgl5).trans x2
                              have j2 := (bu2.frozen (p := ⟨gd5, m2, none⟩) hgl5).trans xfz
                              have HO2 := Lib.hid ho2
                              have BU2 := Lib.hid bu2
                              clear ho2 hg2 bu2
                              refine hK.out _ _ (fun _ => ⟨j0, j1⟩) (fun hHeld2 => ?_)
                              clear hK K hHeld2
                              try simp only [Act.put, List.setIfInBounds_toArray, List.set_cons_zero, List.set_cons_succ]
                              refine wpAnyX_ready (rs := [13]) (by kernel_rfl) (by simp) ?_
                              refine AllX.cons rfl (fun K hK => ?_) ?_
                              · go_simp
                                refine hK.out _ _ (fun _ => ⟨j0, j1⟩) (fun hHeld2 => ?_)
                                clear hK K hHeld2
                                try simp only [Act.put, List.setIfInBounds_toArray, List.set_cons_zero, List.set_cons_succ]
                                refine wpAnyX_ready (rs := [14]) (by kernel_rfl) (by simp) ?_
                                refine AllX.cons rfl (fun K hK => ?_) ?_
                                · go_simp
                                  refine hK.out _ _ (fun h => absurd rfl h) (fun hHeld2 => ?_)
                                  clear hK K hHeld2
                                  try simp only [Act.put, List.setIfInBounds_toArray, List.set_cons_zero, List.set_cons_succ]
                                  refine wpAnyX_done (by kernel_rfl) ?_ _
                                  obtain rfl := HK9.out
                                  obtain ⟨z0, z1, z2, z3, z4⟩ := RB.row RB5.out (by omega) (by omega) HX0.out HXI.out HX1.out.symm rfl HXDV.out HXDL.out xbc HXCW.out HXDK.out HO2.out BU2.out
                                  rw [bs_lit0] at z4
                                  have hm := HM.out
                                  rw [HLA.out] at hm
                                  have Z1 := Lib.hid z1
                                  have Z2 := Lib.hid z2
                                  have Z3 := Lib.hid z3
                                  have Z4 := Lib.hid z4
                                  have HM3 := Lib.hid hm
                                  clear z0 z1 z2 z3 z4 hm HM
                                  go_wp2_with fail
                                  go_meet
                                  by_cases hT : 4096 < T.length
                                  · exact Lib.hid ⟨Z1.out, Z2.out, .inl ⟨by simp; omega, HM3.out.1 hT⟩⟩
                                  · exact Lib.hid ⟨Z1.out, Z2.out, .inr ⟨by simp; omega, ⟨d.decks.dropLast ++ [last ++ [T]], d.items⟩, q, bad, HPQ.out, by rw [List.length_append, List.length_dropLast]; have := HS.out.sz; have := HX1.out; simp; omega, Z3.out, Z4.out, HM3.out.2 (by omega)⟩⟩
                                · exact AllX.nil
                              · exact AllX.nil
                            · exact AllX.nil
                          · exact AllX.nil
                        · exact AllX.nil
                      exact AllX.nil
                  · have e5 : (tx == [100, 101, 99, 107]) = false := beq_eq_false_iff_ne.2 g1
                    rw [e5]
                    have e6 : (tx == [114, 111, 119]) = false := beq_eq_false_iff_ne.2 g2
                    have hKk : KD = (kk : Int) := by rw [← HKU.out]; exact g5
                    obtain ⟨dv, iv, hdd, hD, hI⟩ := HA1.out.dd
                    obtain ⟨l, hl, how, hns⟩ := hI
                    obtain ⟨im, him⟩ : ∃ im, im = l.length := ⟨_, rfl⟩
                    have hlen : l.length = d.items.length := by rw [← hl]; simp
                    rw [← him] at how
                    obtain ⟨ia, ic, rfl, hla⟩ := own_slice how
                    have c6 : wv.cell? ⟨w2.heap.size, 1, none⟩ = some (.slice ia im ic) := cell_of_heap hdd 1 rfl
                    have HLEN := Lib.hid hlen
                    have HIM := Lib.hid him
                    have HKK := Lib.hid hKk
                    have GG := Lib.hid g4
                    have G1 := Lib.hid g1
                    have G2 := Lib.hid g2
                    clear hdd hD how hns hlen him hKk g1 g2 g4 g5 hl
                    by_cases h5 : 5000 ≤ im
                    · have h5I : (5000 : Int) ≤ (im : Int) := by omega
                      have HG6 := Lib.hid (Dr.mid_item_full HS.out.eq HTP.out H0.out G1.out G2.out GG.out (by rw [← HLEN.out, ← HIM.out]; exact h5))
                      go_wp2_with fail
                      go_meet
                      exact Lib.hid ⟨HA1.out.ht, HA1.out.bel, .inl ⟨rfl, HG6.out⟩⟩
                    · have h5I : (im : Int) < 5000 := by omega
                      have h5n : im < 5000 := Nat.lt_of_not_le h5
                      have h5D : decide ((5000 : Int) ≤ (im : Int)) = false := decide_eq_false (by omega)
                      have hpl : p + 1 < ts.length := hpm
                      go_wp2_with fail
                      go_at_call 26; refine (ritem_any kk (w2.heap.size + 1) (p + 1) g3 ts _ HA1.out.rd hpl HEN.out HLN.out _ HKK.out).mono ?_; rintro e w5 ⟨x, nv, q, bad, j, rfl, hn, hr, hnx, hst⟩
                      have HM := Lib.hid (Dr.mid_item HS.out.eq HTP.out H0.out G1.out G2.out GG.out (by rw [← HLEN.out, ← HIM.out]; exact h5n) hst)
                      have HPQ := Lib.hid (st_lt hst)
                      have RB5 := Lib.hid (HA1.out.rb.next (by omega) hn hr)
                      obtain ⟨na, nc, rfl, hnl⟩ := own_slice hnx
                      obtain ⟨dv2, iv2, hdd2, hD2, l2, hl2, how2, hns2⟩ := RB5.out.dd
                      obtain ⟨ia2, ic2, rfl, hla2⟩ := own_slice how2
                      have q3 : w5.cell? ⟨tb, 3, none⟩ = some (.int .i64 tl) := cell_of_heap RB5.out.ht 3 rfl
                      have c7 : w5.cell? ⟨w2.heap.size, 1, none⟩ = some (.slice ia2 l2.length ic2) := cell_of_heap hdd2 1 rfl
                      have htl : tb < w5.heap.size := (Array.getElem?_eq_some_iff.1 RB5.out.ht).1
                      have hdl5 : w2.heap.size < w5.heap.size := (Array.getElem?_eq_some_iff.1 hdd2).1
                      have hwv5 : wv.heap.size ≤ w5.heap.size := hn.size
                      have HDD2 := Lib.hid hdd2
                      have HD2 := Lib.hid hD2
                      have HL2 := Lib.hid hl2
                      have HOW2 := Lib.hid how2
                      have HNS2 := Lib.hid hns2
                      have HNX := Lib.hid hnx
                      clear hn hr hnx hst hdd2 hD2 hl2 how2 hns2 c6
                      unfold itemV
                      have hl5 : l2.length < 5000 := map_lt HL2.out (by rw [← HLEN.out, ← HIM.out]; exact h5n)
                      have hN2 : ∀ A B : Obj, NB (w2.heap.size + 1) w5 ((w5.alloc A).alloc B) := fun A B => ((NB.refl _ _).alloc A).alloc B
                      have HN2 := Lib.hid hN2
                      have HOW3 : Hid (∀ A B : Obj, ((w5.alloc A).alloc B).ownsRow (w2.heap.size + 1 + 1) 34 5 (.slice ia2 l2.length ic2) l2.length (itemsC l2)) := Lib.hid (fun A B => (World.ownsRow.alloc HOW2.out A).alloc B)
                      have HRB7 : Hid (∀ A B : Obj, RB (w2.heap.size + 1) w2.heap.size ts w2 ((w5.alloc A).alloc B) tb ⟨tk, tx, tn, tl⟩ d q bad) := Lib.hid (fun A B => (RB5.out.alloc (by omega) A).alloc (by omega) B)
                      have hts : 0 < ts.length := by omega
                      have hl6 : l2.length + 1 ≤ 1000000 := Nat.le_trans (Nat.succ_le_of_lt hl5) (by decide)
                      have hq1 : w2.heap.size + 1 + 1 ≤ w5.heap.size := by omega
                      have HH3 : Hid (∀ A : Obj, ((w5.alloc A).alloc (.cells #[.int .i64 x.kind, .int .i64 tl, .string ⟨x.name.toArray⟩, .string ⟨x.other.toArray⟩, .slice na x.n.length nc] 34 (0, 0))).heap[w5.heap.size + 1]? = some (.cells (itemC ⟨x.kind, (tl : Int), x.name, x.other, x.n⟩ (.slice na x.n.length nc)).toArray 34 (0, 0))) := Lib.hid (fun A => heap_two3 w5 A _)
                      clear hN2
                      go_wp2_with (at_builtin; refine wpList_app_item rfl _ _ rfl (w2.heap.size + 1 + 1) (.slice ia2 l2.length ic2) l2 rfl (by exact HOW3.out _ _) (w5.heap.size + 1) 1 ⟨x.kind, (tl : Int), x.name, x.other, x.n⟩ (.slice na x.n.length nc) rfl rfl (by exact HH3.out _) hl6 ?q1 ?q2)
                      case q1 => exact Nat.le_trans hq1 (by simp; exact Nat.le_add_right _ 2)
                      case q2 =>
                        intro v' w8 h1 h2
                        obtain ⟨na2, nca2, rfl, -⟩ := own_slice h1
                        obtain ⟨x1, x2, x3, x4, x5⟩ := RB.item (HRB7.out _ _) (by omega) hts ((HN2.out _ _).heap HDD2.out (by omega)) (by obtain ⟨dvs, c, hdv, -⟩ := HD2.out; obtain ⟨a, ca, e, -⟩ := own_slice hdv; exact ⟨_, _, _, e⟩) (HD2.out.nb (HN2.out _ _)) HL2.out (HOW3.out _ _) (fun y hy => (HN2.out _ _).row (HNS2.out y hy) (by omega)) (x := ⟨x.kind, (tl : Int), x.name, x.other, x.n⟩) ((HN2.out _ _).row HNX.out (by omega)) (by omega) h1 h2
                        have X2 := Lib.hid x2
                        have X3 := Lib.hid x3
                        have X4 := Lib.hid x4
                        have X5 := Lib.hid x5
                        have y1 := cell_of_heap x1 1 rfl
                        have y2 := free_of_heap x1 1
                        clear h1 h2 x1 x2 x3 x4 x5
                        go_wp2_with fail
                        go_meet
                        exact Lib.hid ⟨X2.out, X3.out, .inr ⟨by first | (simp; done) | (simp; omega), ⟨d.decks, d.items ++ [⟨x.kind, (tl : Int), x.name, x.other, x.n⟩]⟩, q, bad, HPQ.out, HS.out.sz, X4.out, X5.out, HM.out⟩⟩
                case rest =>
                  obtain ⟨hm1, hm2, hm3⟩ := hcut.out
                  have R2 := (hm2.block _ hsz).trans R0.out
                  have HBW : Hid (Below w.heap.size w wc) := Lib.hid ((((Below.refl _ w).alloc (Nat.le_refl _) _).trans (B2.out.mono (by simp))).trans (hm2.mono (by omega)))
                  have d0 : wc.cell? ⟨w.heap.size, 0, none⟩ = some (.slice none 0 0) := cell_of_heap R2 0 rfl
                  have d1 : wc.cell? ⟨w.heap.size, 1, none⟩ = some (.slice none 0 0) := cell_of_heap R2 1 rfl
                  have f0 : wc.frozen? ⟨w.heap.size, 0, none⟩ = false := free_of_heap R2 0
                  have f2 : wc.frozen? ⟨w.heap.size, 1, none⟩ = false := free_of_heap R2 1
                  have HM2 := Lib.hid hm2
                  have q3 : wc.cell? ⟨tb, 3, none⟩ = some (.int .i64 tl) := cell_of_heap hm1 3 rfl
                  rcases hm3 with ⟨rfl, hG6⟩ | ⟨rfl, d2, q, bad, hpq, hsz2, hrd, hdd, hmid⟩
                  · as_aux_lemma =>
                    have HG6 := Lib.hid hG6
                    clear hcut hm1 hm2 R2 hG6
                    go_wp2_with fail
                    go_region
                    go_wp2_with fail
                    (try simp only [Exit.inBlock, Exit.then])
                    refine bodyPost_ret (v := .tuple #[.agg #[.slice none 0 0, .slice none 0 0], .int .i64 6, .int .i64 tl]) (by simp [results, Tryz.results10, go_sem, *]) rfl (.bad HG6.out rfl rfl ?_)
                    exact ((HBW.out.drew.setCell (Nat.le_refl _) _).setCell (Nat.le_refl _) _)
                  · have hqn : q < ts.length := hmid.1
                    obtain ⟨u, hu⟩ : ∃ u, ts[q]? = some u := ⟨_, List.getElem?_eq_getElem hqn⟩
                    obtain ⟨k0, k1', k2, k3⟩ := (TK2.out.keep hm2) q hqn
                    have hget : ts[q]'hqn = u := by rw [List.getElem?_eq_getElem hqn] at hu; injection hu
                    rw [hget] at k0 k1' k2 k3
                    have HRD := Lib.hid hrd
                    have HDD := Lib.hid hdd
                    have HMI := Lib.hid hmid
                    have HU := Lib.hid hu
                    have HPQ := Lib.hid hpq
                    have HQN := Lib.hid hqn
                    clear hrd hdd hmid hu hpq hget k1' k2
                    obtain ⟨g3, cap3, h03, -⟩ := HRD.out
                    have c1 : wc.cell? ⟨w2.heap.size + 1, 1, none⟩ = some (.int .i64 q) := cell_of_heap h03 1 rfl
                    have c2 : wc.cell? ⟨w2.heap.size + 1, 2, none⟩ = some (.bool bad) := cell_of_heap h03 2 rfl
                    have qI0 : (0 : Int) ≤ (q : Int) := by omega
                    have qI1 : (q : Int) < (n : Int) := by have h1 := HN.out; rw [h1]; exact Int.ofNat_lt.2 hqn
                    obtain ⟨uk, ut, un, ul⟩ := u
                    dsimp only at k0 k3
                    clear hcut hm1 hm2 R2 h03 hqn q3
                    cases bad with
                    | true =>
                      as_aux_lemma =>
                      have HG6 := Lib.hid (Dr.mid_bad HMI.out HU.out)
                      go_wp2_with fail
                      go_region
                      go_wp2_with fail
                      (try simp only [Exit.inBlock, Exit.then])
                      refine bodyPost_ret (v := .tuple #[.agg #[.slice none 0 0, .slice none 0 0], .int .i64 11, .int .i64 ul]) (by simp [results, Tryz.results10, go_sem, *]) rfl (.bad HG6.out rfl rfl ?_)
                      exact ((HBW.out.drew.setCell (Nat.le_refl _) _).setCell (Nat.le_refl _) _)
                    | false =>
                      by_cases hk : uk = 3 ∨ uk = 4
                      · have HGn := Lib.hid (Dr.mid_on HMI.out HU.out hk)
                        have HRR : Hid (RP (w2.heap.size + 1) w2.heap.size ts G w2 wc d2 q) := Lib.hid ⟨HRD.out, HDD.out, HQN.out, HGn.out, HM2.out, hsz2⟩
                        have hpq := HPQ.out rfl
                        rcases hk with hk | hk
                        · as_aux_lemma =>
                          have u3 : ((uk : Int) != 3) = false := by rw [hk]; rfl
                          clear hk
                          go_wp2_with fail
                          go_roundw
                          case rel => exact ⟨d2, q, HRR⟩
                          case measure => rw [HRR.out.rd.at, HS.out.rd.at]; exact Nat.sub_lt_sub_left hpn hpq
                        · as_aux_lemma =>
                          have u3 : ((uk : Int) != 3) = true := by rw [hk]; rfl
                          have u4 : ((uk : Int) != 4) = false := by rw [hk]; rfl
                          clear hk
                          go_wp2_with fail
                          go_roundw
                          case rel => exact ⟨d2, q, HRR⟩
                          case measure => rw [HRR.out.rd.at, HS.out.rd.at]; exact Nat.sub_lt_sub_left hpn hpq
                      · as_aux_lemma =>
                        rw [not_or] at hk
                        have HG6 := Lib.hid (Dr.mid_wrong HMI.out HU.out hk.1 hk.2)
                        have u3 : ((uk : Int) != 3) = true := by simp; omega
                        have u4 : ((uk : Int) != 4) = true := by simp; omega
                        clear hk
                        go_wp2_with fail
                        go_region
                        go_wp2_with fail
                        (try simp only [Exit.inBlock, Exit.then])
                        refine bodyPost_ret (v := .tuple #[.agg #[.slice none 0 0, .slice none 0 0], .int .i64 11, .int .i64 ul]) (by simp [results, Tryz.results10, go_sem, *]) rfl (.bad HG6.out rfl rfl ?_)
                        exact ((HBW.out.drew.setCell (Nat.le_refl _) _).setCell (Nat.le_refl _) _)
          · as_aux_lemma =>
            have HGe := Lib.hid (Dr.mid_other HS.out.eq HTP.out HK3.out HK4.out h0)
            have e0 : ((tk : Int) == 0) = false := by simp; omega
            generalize KDf tk tx 6 = KD
            go_wp2_with fail
            go_region
            go_wp2_with fail
            (try simp only [Exit.inBlock, Exit.then])
            refine bodyPost_ret (v := .tuple #[.agg #[.slice none 0 0, .slice none 0 0], .int .i64 11, .int .i64 tl]) (by simp [results, Tryz.results10, go_sem, *]) rfl (.bad HGe.out rfl rfl ?_)
            exact ((HB1.out.drew.setCell (Nat.le_refl _) _).setCell (Nat.le_refl _) _)
end Go.Proofs.YtnccndfffmaonaaGreatDoor
/- The reference of layer 10: Parse, whatever comes. -/
namespace Go.Proofs.YtnccndfffmaonaaGreatDoor
open Go.RowKit

theorem rParse_any (src : ByteArray) (w : World) (hs : src.size ≤ 20000) : Calls Tryz.prog 10 #[.string src] w (ParsePost (Dr.read (bs src)) w) := by
  cases hl : Lx.lex (bs src) 1 with
  | ok ts => exact rParse_ok src w hs ts hl
  | error x => exact rParse_err src w hs x hl
end Go.Proofs.YtnccndfffmaonaaGreatDoor
