/- Walks of taquinref09: Lex. -/
import Derived.Test.YtdjiimblfhbcjaaDoorR9d
import Derived.Test.YtdjiimblfhbcjaaDoorLxZ
namespace Go.Proofs.YtdjiimblfhbcjaaDoor
set_option linter.unusedSimpArgs false
open Go.RowKit

/-- A call's own list of tokens. -/
def OT (base : Nat) (w : World) (v : Value) (ts : List Lx.Tok) : Prop := w.ownsRow base 42 4 v ts.length (toksC ts)
theorem OT.nil (base : Nat) (w : World) : OT base w (.slice none 0 0) [] := ⟨rfl, .inl ⟨rfl, rfl⟩⟩
theorem OT.keep {base : Nat} {w W : World} {v : Value} {ts : List Lx.Tok} (h : OT base w v ts) (hb : Below w.heap.size w W) : OT base W v ts :=
  World.ownsRow.kept (row := none) h ⟨hb.os, hb.tape, hb.output, hb.size, fun k hk _ => hb.block k hk⟩ (Classical.em _)
theorem OT.z0 {base : Nat} {w : World} {v : Value} {ts : List Lx.Tok} (h : OT base w v ts) : Z0 v := by
  rintro b off sp n cap rfl
  rcases h.2 with ⟨h, _⟩ | ⟨g, cap, cur, h, _⟩
  · cases h
  · cases h; exact ⟨rfl, rfl⟩
theorem wpList_app_tok {w : World} {ops : Array Oper} {rest : List Oper} {o : Oper} {a : Act} {Q : Exit → Act → World → Prop} (hgd : o.guard = none) (s x : Operand)
    (ho : o.op = .call { callee := .builtin .append, args := #[s, x], argTypes := #[37, 37] })
    (base : Nat) (v : Value) (ts : List Lx.Tok) (hs : a.eval s = v) (hown : OT base w v ts)
    (g c : Nat) (t : Lx.Tok) (cs : Array Value) (hx : a.eval x = .slice (some ⟨g, 0, none⟩) 1 c) (hg : w.heap[g]? = some (.cells cs 42 (0, 0))) (hcs : cs.toList = tokC t)
    (hsz : ts.length ≤ 1000000000) (hbase : base ≤ w.heap.size)
    (h : ∀ v' w', OT base w' v' (ts ++ [t]) → Below base w w' → w.grownBy w' v.ownBlock → wpList Tryd.prog ops Q rest (a.put o.dst v') w') : wpList Tryd.prog ops Q (o :: rest) a w := by
  obtain ⟨i, hi, hz, hsize, hby⟩ := info_parts Tryd.tokInfo
  have hlt := hown
  refine wpList_append_own w hgd s x _ ho base 42 i _ 4 40 Tryd.underlying37 hi hz hsize hby rfl (by decide) v ts.length (toksC ts) hs hown ⟨g, 0, none⟩ 1 c (tokC t) hx (by simp [tokC]) ?_ ?_ (by unfold maxLen; omega) (by omega) hbase ?_
  · intro j u hj
    have e2 : ((⟨g, 0, none⟩ : Addr).add j) = ⟨g, 0 + j, none⟩ := by unfold Addr.add; split <;> simp_all
    rw [e2, Nat.zero_add]
    have : cs[j]? = some u := by rw [← hj, ← hcs]; simp
    simp [World.cell?, hg, this]
  · intro u hu
    simp only [tokC, List.mem_cons, List.not_mem_nil, or_false] at hu
    rcases hu with rfl | rfl | rfl | rfl <;> rfl
  · intro v' w' h2 h3 _
    refine h v' w' ?_ ((Below.refl _ _).grown h3 hbase (fun k hk => (World.ownsRow.lt hlt k hk).1)) h3
    unfold OT
    rw [List.length_append, toksC_append]
    have e : toksC [t] = tokC t := by simp [toksC]
    rw [e]; exact h2
theorem lex_same {l l' : List UInt8} (ln : Nat) (h : Lx.skip false l = Lx.skip false l') : Lx.lex l ln = Lx.lex l' ln := by rw [Lx.lex_eq, h, ← Lx.lex_eq]
def R9Rel (src : ByteArray) (G : Except (Nat × Nat) (List Lx.Tok)) (k ln : Nat) (ts : List Lx.Tok) : Prop := G = joinT ts (Lx.lex ((bs src).drop k) ln)
theorem r9_white {src : ByteArray} {G : Except (Nat × Nat) (List Lx.Tok)} {k ln : Nat} {ts : List Lx.Tok} (h : R9Rel src G k ln ts) (hlt : k < src.size) (hw : Lx.white src[k] = true) : R9Rel src G (k + 1) ln ts := by
  unfold R9Rel at *
  rw [h]; congr 1
  apply lex_same
  rw [bs_drop src k hlt, Lx.skip, if_pos hw]
theorem r9_hash {src : ByteArray} {G : Except (Nat × Nat) (List Lx.Tok)} {k m ln : Nat} {ts : List Lx.Tok} (h : R9Rel src G k ln ts) (hs : Lx.skip false ((bs src).drop k) = Lx.skip false ((bs src).drop m)) : R9Rel src G m ln ts := by
  unfold R9Rel at *
  rw [h]; congr 1
  exact lex_same ln hs
theorem heap_two (w : World) (A B : Obj) : ((w.alloc A).alloc B).heap[w.heap.size + 1]? = some B := by
  have := heap_alloc_new (w.alloc A) B
  rwa [show (w.alloc A).heap.size = w.heap.size + 1 by simp] at this
theorem two_cell (w : World) (cs : Array Value) (t : TypeId) (fr : Nat × Nat) (B : Obj) (i : Nat) {v : Value} (h : cs[i]? = some v) : ((w.alloc (.cells cs t fr)).alloc B).cell? ⟨w.heap.size, i, none⟩ = some v := by
  have e : ((w.alloc (.cells cs t fr)).alloc B).heap[w.heap.size]? = some (.cells cs t fr) := by
    rw [heap_alloc_old _ _ (by simp), heap_alloc_new]
  simp [World.cell?, e, h]
theorem step_pos {l : List UInt8} {z : Nat} (h : Lx.step l = .bad z) : 0 < z := by
  rcases Lx.step_code h with rfl | rfl <;> decide
theorem sk_step {src : ByteArray} {m : Nat} (h : m < src.size) (hc : src[m] ≠ 10) : Lx.skip true ((bs src).drop m) = Lx.skip true ((bs src).drop (m + 1)) := by
  rw [bs_drop src m h, Lx.skip, if_neg hc]
theorem sk_stop {src : ByteArray} {m : Nat} (h : m < src.size) (hc : src[m] = 10) : Lx.skip true ((bs src).drop m) = Lx.skip false ((bs src).drop m) := by
  rw [bs_drop src m h, hc, Lx.skip, if_pos rfl, Lx.skip, if_neg (by decide), if_neg (by decide)]
theorem sk_end (src : ByteArray) : Lx.skip true ((bs src).drop src.size) = Lx.skip false ((bs src).drop src.size) := by
  rw [List.drop_eq_nil_of_le (by rw [bs_len]; exact Nat.le_refl _)]; rfl
theorem skip_id {src : ByteArray} {k : Nat} (h : (∃ h : k < src.size, Lx.white src[k] = false ∧ src[k] ≠ 35) ∨ k = src.size) : Lx.skip false ((bs src).drop k) = (bs src).drop k := by
  rcases h with ⟨hlt, h1, h2⟩ | rfl
  · exact skip_stop src k hlt h1 h2
  · rw [List.drop_eq_nil_of_le (by rw [bs_len]; exact Nat.le_refl _)]; rfl
theorem r9_done {src : ByteArray} {G : Except (Nat × Nat) (List Lx.Tok)} {k ln : Nat} {ts : List Lx.Tok} (h : R9Rel src G k ln ts) (hs : Lx.skip false ((bs src).drop k) = (bs src).drop k) (hst : Lx.step ((bs src).drop k) = .done) : G = .ok (ts ++ [⟨4, [], 0, ln⟩]) := by
  unfold R9Rel at h
  rw [h, Lx.lex_done ln (by rw [hs, hst])]; rfl
theorem r9_bad {src : ByteArray} {G : Except (Nat × Nat) (List Lx.Tok)} {k ln n : Nat} {ts : List Lx.Tok} (h : R9Rel src G k ln ts) (hs : Lx.skip false ((bs src).drop k) = (bs src).drop k) (hst : Lx.step ((bs src).drop k) = .bad n) : G = .error (n, ln) := by
  unfold R9Rel at h
  rw [h, Lx.lex_bad ln (by rw [hs, hst])]; rfl
theorem r9_tok {src : ByteArray} {G : Except (Nat × Nat) (List Lx.Tok)} {k m ln kd : Nat} {t rest : List UInt8} {n : Int} {ts : List Lx.Tok} (h : R9Rel src G k ln ts) (hs : Lx.skip false ((bs src).drop k) = (bs src).drop k) (hst : Lx.step ((bs src).drop k) = .tok kd t n rest) (hr : rest = (bs src).drop m) : R9Rel src G m (Lx.nl kd ln) (ts ++ [⟨kd, t, n, ln⟩]) := by
  unfold R9Rel at *
  rw [h, Lx.lex_tok ln (by rw [hs, hst]), joinT_pre, hr]
theorem step_kind {l : List UInt8} {kd : Nat} {t rest : List UInt8} {n : Int} (h : Lx.step l = .tok kd t n rest) : kd < 4 := by
  have := (Lx.step_good h).1 0
  rcases this with ⟨h, _⟩ | ⟨h, _⟩ | ⟨h, _⟩ | ⟨h, _⟩ <;> dsimp only at h <;> omega

set_option maxRecDepth 100000 in
set_option maxHeartbeats 64000000 in
theorem r9Lex_any (src : ByteArray) (w : World) (hs : src.size ≤ 20000) :
    Calls Tryd.prog 30 #[.string src] w (LexPost (Lx.lex (bs src) 1) w) := by
  obtain ⟨G, hG⟩ : ∃ G, G = Lx.lex (bs src) 1 := ⟨_, rfl⟩
  rw [← hG]
  have HG := Lib.hid hG
  have h20 : decide ((20000 : Int) < (src.size : Int)) = false := decide_eq_false (by omega)
  clear hG
  go_enter Tryd.func30, Tryd.ntmps30
  go_wp2_with fail
  go_loopw [5, 6, 7] (fun v lv i wr => ∃ (k ln : Nat) (ts : List Lx.Tok), k ≤ src.size ∧ ln ≤ k + 1 ∧ ts.length ≤ k ∧ i = .int .i64 k ∧ lv = .int .i64 ln ∧ Hid (OT w.heap.size wr v ts) ∧ Hid (Below w.heap.size w wr) ∧ Hid (R9Rel src G k ln ts)) (fun _ _ i _ => src.size + 1 - (intOf i).toNat)
  case atStart => exact ⟨0, 1, [], by omega, by omega, by simp, rfl, rfl, Lib.hid (OT.nil _ _), Lib.hid (Below.refl _ _), Lib.hid (by rw [R9Rel, HG.out, List.drop_zero]; cases Lx.lex (bs src) 1 <;> rfl)⟩
  case round =>
    obtain ⟨k, ln, ts, hk, hln, htl, rfl, rfl, HO, HB, HR⟩ := hrel
    clear HG
    have hwb : w.heap.size ≤ wr.heap.size := HB.out.size
    have hkI : (k : Int) ≤ (src.size : Int) := by omega
    by_cases hlt : k < src.size
    · have hltI : (k : Int) < (src.size : Int) := by omega
      by_cases hw32 : src[k] = 32
      · have e32 : ((src[k].toNat : Int) == 32) = true := u8_is (b := 32) hw32
        have HN := Lib.hid (r9_white HR.out hlt (by rw [hw32]; rfl))
        clear HR hw32
        go_wp2_with fail
        go_roundw
        case rel => exact ⟨k + 1, ln, ts, by omega, by omega, by omega, by go_num, rfl, HO, HB, HN⟩
        case measure => simp [intOf]; omega
      · have e32 : ((src[k].toNat : Int) == 32) = false := u8_ne (b := 32) hw32
        by_cases hw9 : src[k] = 9
        · have e9 : ((src[k].toNat : Int) == 9) = true := u8_is (b := 9) hw9
          have HN := Lib.hid (r9_white HR.out hlt (by rw [hw9]; rfl))
          clear HR hw32 hw9
          go_wp2_with fail
          go_roundw
          case rel => exact ⟨k + 1, ln, ts, by omega, by omega, by omega, by go_num, rfl, HO, HB, HN⟩
          case measure => simp [intOf]; omega
        · have e9 : ((src[k].toNat : Int) == 9) = false := u8_ne (b := 9) hw9
          by_cases hw13 : src[k] = 13
          · have e13 : ((src[k].toNat : Int) == 13) = true := u8_is (b := 13) hw13
            have HN := Lib.hid (r9_white HR.out hlt (by rw [hw13]; rfl))
            clear HR hw32 hw9 hw13
            go_wp2_with fail
            go_roundw
            case rel => exact ⟨k + 1, ln, ts, by omega, by omega, by omega, by go_num, rfl, HO, HB, HN⟩
            case measure => simp [intOf]; omega
          · have e13 : ((src[k].toNat : Int) == 13) = false := u8_ne (b := 13) hw13
            by_cases hw35 : src[k] = 35
            · have e35 : ((src[k].toNat : Int) == 35) = true := u8_is (b := 35) hw35
              have hsk : Lx.skip false ((bs src).drop k) = Lx.skip true ((bs src).drop (k + 1)) := by
                rw [bs_drop src k hlt, hw35, Lx.skip, if_neg (by decide), if_pos rfl]
              have HSK := Lib.hid hsk
              have e10 : ((src[k].toNat : Int) != 10) = true := by
                have : ((src[k].toNat : Int) == 10) = false := u8_ne (b := 10) (by rw [hw35]; decide)
                rw [bne, this]; rfl
              have HC := Lib.hid hw35
              clear hw32 hw9 hw13 hw35 hsk
              go_wp2_with fail
              go_loop [7] (fun i => ∃ m : Nat, k ≤ m ∧ m ≤ src.size ∧ Hid (Lx.skip false ((bs src).drop k) = Lx.skip true ((bs src).drop m)) ∧ i = .int .i64 m) (fun i => src.size - (intOf i).toNat)
              case atStart => exact ⟨k, Nat.le_refl _, hk, Lib.hid (HSK.out.trans (sk_step hlt (by rw [HC.out]; decide)).symm), rfl⟩
              case round =>
                obtain ⟨m, hkm, hm, HM, rfl⟩ := hrel
                clear HSK e10
                by_cases hms : m < src.size
                · have hmsI : (m : Int) < (src.size : Int) := by omega
                  by_cases h10 : src[m] = 10
                  · have e10 : ((src[m].toNat : Int) != 10) = false := by
                      have : ((src[m].toNat : Int) == 10) = true := u8_is (b := 10) h10
                      rw [bne, this]; rfl
                    have hne : k < m := Nat.lt_of_le_of_ne hkm (by rintro rfl; rw [HC.out] at h10; exact absurd h10 (by decide))
                    have HN := Lib.hid (r9_hash HR.out (HM.out.trans (sk_stop hms h10)))
                    clear h10 HM HR HC e32 e9 e13 e35 hkm
                    go_wp2_with fail
                    go_roundw
                    case rel => exact ⟨m, ln, ts, by omega, by omega, by omega, rfl, rfl, HO, HB, HN⟩
                    case measure => simp [intOf]; omega
                  · have e10 : ((src[m].toNat : Int) != 10) = true := by
                      have : ((src[m].toNat : Int) == 10) = false := u8_ne (b := 10) h10
                      rw [bne, this]; rfl
                    have HN := Lib.hid (HM.out.trans (sk_step hms h10))
                    clear h10 HM
                    go_wp2_with fail
                    go_round
                    case rel => exact ⟨m + 1, by omega, by omega, HN, by go_num⟩
                    case measure => simp [intOf]; omega
                · obtain rfl : m = src.size := by omega
                  have HN := Lib.hid (r9_hash HR.out (HM.out.trans (sk_end src)))
                  clear HM HR HC e32 e9 e13 e35
                  go_wp2_with fail
                  go_roundw
                  case rel => exact ⟨src.size, ln, ts, by omega, by omega, by omega, rfl, rfl, HO, HB, HN⟩
                  case measure => simp [intOf]; omega
            · have e35 : ((src[k].toNat : Int) == 35) = false := u8_ne (b := 35) hw35
              have hid := skip_id (src := src) (k := k) (.inl ⟨hlt, by simp [Lx.white, hw32, hw9, hw13], hw35⟩)
              clear hw32 hw9 hw13 hw35
              cases hst : Lx.step ((bs src).drop k) with
              | done =>
                have HT := Lib.hid (fun W => (hst ▸ r9token_any src k W hk (by omega)))
                have HX := Lib.hid (r9_done HR.out hid hst)
                clear hst hid HR
                go_wp2_with fail
                refine (HT.out _).mono ?_; rintro e w1 ⟨rfl, b⟩
                dsimp only [tv, tz]
                have HO1 := Lib.hid (HO.out.keep b)
                have HB1 := Lib.hid (HB.out.trans (b.mono HB.out.size))
                have hs1 := HB1.out.size
                clear b HO HB HT
                go_wp2_with (at_builtin; refine wpList_app_tok rfl _ _ rfl w.heap.size _ ts rfl (HO1.out.keep (((Below.refl _ _).alloc (Nat.le_refl _) _).alloc (by simp) _)) (w1.heap.size + 1) 1 ⟨4, [], 0, ln⟩ #[.int .i64 4, .string ⟨#[]⟩, .int .i64 0, .int .i64 ln] rfl (heap_two _ _ _) (by rfl) (by omega) (by simp; omega) ?_)
                intro v' w2 h1 h2 hgrow
                have k8 := (hgrow.cell_far ⟨w1.heap.size, 0, none⟩ (by simp; omega) (own_new HO1.out)).trans (two_cell (v := .int .i64 4) _ _ _ _ _ 0 rfl)
                have HO2 := Lib.hid h1
                have HB2 := Lib.hid ((((HB1.out.alloc hs1 _).alloc (by simp; omega) _)).trans h2)
                clear h1 h2 hgrow HO1 HB1
                go_wp2_with fail
                go_ret3
                exact LexPost.fine HX.out (TS.of_own HO2.out (by simp [maxLen]; omega)) HO2.out.z0 HB2.out
              | bad z =>
                have HT := Lib.hid (fun W => (hst ▸ r9token_any src k W hk (by omega)))
                have HX := Lib.hid (r9_bad HR.out hid hst)
                have hz := step_pos hst
                have z0 : ((z : Int) != 0) = true := by simp; omega
                clear hst hid HR
                go_wp2_with fail
                refine (HT.out _).mono ?_; rintro e w1 ⟨en, rfl, b⟩
                dsimp only [tv, tz]
                have HO1 := Lib.hid (HO.out.keep b)
                have HB1 := Lib.hid (HB.out.trans (b.mono HB.out.size))
                have hs1 := HB1.out.size
                clear b HO HB HT
                go_wp2_with fail
                go_ret3
                exact LexPost.bad HX.out rfl (HB1.out.alloc hs1 _)
              | tok kd t n rest =>
                have HT := Lib.hid (fun W => (hst ▸ r9token_any src k W hk (by omega)))
                have hk4 := step_kind hst
                have k4 : ((kd : Int) == 4) = false := beq_eq_false_iff_ne.2 (by omega)
                have HY := Lib.hid (fun m h => r9_tok (m := m) HR.out hid hst h)
                have HL := Lib.hid (fun m hm h => tok_lt (m := m) hk hm hst h)
                clear hst hid HR
                go_wp2_with fail
                refine (HT.out _).mono ?_; rintro e w1 ⟨m, hm, hr, rfl, b⟩
                dsimp only [tv, tz]
                have HO1 := Lib.hid (HO.out.keep b)
                have HB1 := Lib.hid (HB.out.trans (b.mono HB.out.size))
                have hs1 := HB1.out.size
                clear b HO HB HT
                have hkm := HL.out m hm hr
                have HX := Lib.hid (HY.out m hr)
                clear HL HY hr
                go_wp2_with (at_builtin; refine wpList_app_tok rfl _ _ rfl w.heap.size _ ts rfl (HO1.out.keep (((Below.refl _ _).alloc (Nat.le_refl _) _).alloc (by simp) _)) (w1.heap.size + 1) 1 ⟨kd, t, n, ln⟩ #[.int .i64 kd, .string ⟨t.toArray⟩, .int .i64 n, .int .i64 ln] rfl (heap_two _ _ _) (by rfl) (by omega) (by simp; omega) ?_)
                intro v' w2 h1 h2 hgrow
                have k8 := (hgrow.cell_far ⟨w1.heap.size, 0, none⟩ (by simp; omega) (own_new HO1.out)).trans (two_cell (v := .int .i64 kd) _ _ _ _ _ 0 rfl)
                have HO2 := Lib.hid h1
                have HB2 := Lib.hid ((((HB1.out.alloc hs1 _).alloc (by simp; omega) _)).trans h2)
                clear h1 h2 hgrow HO1 HB1
                by_cases hk3 : kd = 3
                · have k3 : ((kd : Int) == 3) = true := beq_iff_eq.2 (by omega)
                  go_wp2_with fail
                  go_roundw
                  case rel => exact ⟨m, ln + 1, _, by omega, by omega, by simp; omega, rfl, by go_num, HO2, HB2, Lib.hid (by have := HX.out; simpa [Lx.nl, hk3] using this)⟩
                  case measure => simp [intOf]; omega
                · have k3 : ((kd : Int) == 3) = false := beq_eq_false_iff_ne.2 (by omega)
                  go_wp2_with fail
                  go_roundw
                  case rel => exact ⟨m, ln, _, by omega, by omega, by simp; omega, rfl, by go_num, HO2, HB2, Lib.hid (by have := HX.out; simpa [Lx.nl, hk3] using this)⟩
                  case measure => simp [intOf]; omega
    · obtain rfl : k = src.size := by omega
      have hid := skip_id (src := src) (k := src.size) (.inr rfl)
      have hst : Lx.step ((bs src).drop src.size) = .done := by rw [List.drop_eq_nil_of_le (by rw [bs_len]; exact Nat.le_refl _)]; rfl
      have HT := Lib.hid (fun W => (hst ▸ r9token_any src src.size W hk (by omega)))
      have HX := Lib.hid (r9_done HR.out hid hst)
      clear hst hid HR
      go_wp2_with fail
      refine (HT.out _).mono ?_; rintro e w1 ⟨rfl, b⟩
      dsimp only [tv, tz]
      have HO1 := Lib.hid (HO.out.keep b)
      have HB1 := Lib.hid (HB.out.trans (b.mono HB.out.size))
      have hs1 := HB1.out.size
      clear b HO HB HT
      go_wp2_with (at_builtin; refine wpList_app_tok rfl _ _ rfl w.heap.size _ ts rfl (HO1.out.keep (((Below.refl _ _).alloc (Nat.le_refl _) _).alloc (by simp) _)) (w1.heap.size + 1) 1 ⟨4, [], 0, ln⟩ #[.int .i64 4, .string ⟨#[]⟩, .int .i64 0, .int .i64 ln] rfl (heap_two _ _ _) (by rfl) (by omega) (by simp; omega) ?_)
      intro v' w2 h1 h2 hgrow
      have k8 := (hgrow.cell_far ⟨w1.heap.size, 0, none⟩ (by simp; omega) (own_new HO1.out)).trans (two_cell (v := .int .i64 4) _ _ _ _ _ 0 rfl)
      have HO2 := Lib.hid h1
      have HB2 := Lib.hid ((((HB1.out.alloc hs1 _).alloc (by simp; omega) _)).trans h2)
      clear h1 h2 hgrow HO1 HB1
      go_wp2_with fail
      go_ret3
      exact LexPost.fine HX.out (TS.of_own HO2.out (by simp [maxLen]; omega)) HO2.out.z0 HB2.out
end Go.Proofs.YtdjiimblfhbcjaaDoor
