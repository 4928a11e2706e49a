/- Parts DrY of this claim, laid one behind the other: walks and the plain laws behind them; each contract states its own conditions. -/
import Derived.Test.YtnccndfffmaonaaGreatDoorZF
/- Walks of package draft: row. -/
namespace Go.Proofs.YtnccndfffmaonaaGreatDoor
set_option linter.unusedSimpArgs false
set_option linter.unusedVariables false
open Go.RowKit

theorem lit_size2 (t : List UInt8) : (⟨t.toArray⟩ : ByteArray).size = t.length := by rw [← bs_len, bs_lit0]
set_option maxRecDepth 100000 in
set_option maxHeartbeats 16000000 in
theorem row_bad (b : Nat) (d : Dr.Draft) (t u : Lx.Tok) (s : List Lx.Tok) (w : World) (h : PR b w d (t :: u :: s)) (hne : d.decks ≠ []) (hl : (d.decks.getLastD []).length < 4096) (hk2 : u.kind ≠ 2) :
    Calls Tryz.prog 50 #[.pointer (some ⟨b, 0, none⟩)] w fun e w' => e = .returned (.int .i64 11) ∧ NB b w w' ∧ PR b w' d (u :: s) := by
  have hlt := h.cells
  obtain ⟨lv, dv, iv, h0, hT, hD, hI⟩ := h
  obtain ⟨g, off, n, cap, rfl, hg, hn, hn1, hn2, hnc, hcm, q0, q1, q2, q3⟩ := hT.head
  have c0 : w.cell? ⟨b, 0, none⟩ = some (.slice (some ⟨g, off, none⟩) n cap) := cell_of_heap h0 0 rfl
  have f0 : w.frozen? ⟨b, 0, none⟩ = false := free_of_heap h0 0
  have hn3 : 2 ≤ n := by have := hn.out; simp at this; omega
  have hcap : ¬ cap = 1 := by omega
  have hcap1 : 1 ≤ cap := by omega
  have nI : (1 : Int) ≤ (n : Int) := by omega
  have nI2 : (1 : Int) ≤ (cap : Int) := by omega
  have HP1 : Hid (PR b (w.setCell ⟨b, 0, none⟩ (.slice (some ⟨g, off + 4, none⟩) (n - 1) (cap - 1))) d (u :: s)) := Lib.hid (PR.adv h0 hD hI ((NB.refl b w).set 0 _) (by rw [set_heap h0]; rfl) hT.tail)
  obtain ⟨dvs, c, hdv, hdl, hbc, hcw, hdk⟩ := hD
  obtain ⟨m, u0, hm, hu, hou⟩ := DK.last hdl hdk hne
  obtain ⟨gd, cd, hdvE⟩ : ∃ g cd, dv = .slice (some ⟨g, 0, none⟩) d.decks.length cd := by
    rcases hdv.2 with ⟨-, h⟩ | ⟨g, cap, cur, h, -⟩
    · omega
    · exact ⟨g, cap, h⟩
  obtain ⟨a2, ca2, hue, hl2⟩ := own_slice hou
  subst hdvE
  subst hue
  have c1 : w.cell? ⟨b, 1, none⟩ = some (.slice (some ⟨gd, 0, none⟩) d.decks.length cd) := cell_of_heap h0 1 rfl
  have x1 : w.cell? ⟨gd, m, none⟩ = some (.slice a2 (d.decks.getLastD []).length ca2) := by
    have := hdv.cells (g := gd) rfl m _ hu
    have e2 : ((⟨gd, 0, none⟩ : Addr).add m) = ⟨gd, m, none⟩ := by unfold Addr.add; split <;> simp_all
    rw [e2] at this; exact this
  obtain ⟨dn, hdn⟩ : ∃ dn, dn = d.decks.length := ⟨_, rfl⟩
  rw [← hdn] at c1 hm
  obtain ⟨k, hk⟩ : ∃ k, k = (d.decks.getLastD []).length := ⟨_, rfl⟩
  rw [← hk] at x1 hl hl2
  obtain rfl : dn = m + 1 := hm.symm
  have hn9 : m + 1 ≤ 9223372036854775807 := by obtain ⟨_, _, _, h⟩ := own_slice hdv; omega
  have hgb : gd ≠ b := by have := World.ownsRow.lt hdv gd rfl; omega
  have mI0 : (0 : Int) ≤ (m : Int) := by omega
  have mI1 : (m : Int) < (m : Int) + 1 := by omega
  have mI2 : (m : Int).toNat = m := by omega
  have mI3 : ((m : Int) + 1 == 0) = false := beq_eq_false_iff_ne.2 (by omega)
  have mI4 : (((m + 1 : Nat) : Int) == 0) = false := beq_eq_false_iff_ne.2 (by omega)
  have kI : (k : Int) < 4096 := by omega
  have HDN := Lib.hid hdn
  have HKL := Lib.hid hk
  clear h0 hT hI hdv hdl hdk hu hou hdn hk
  have HK := Lib.hid hk2
  clear hk2
  go_enter Tryz.func50, Tryz.ntmps50
  go_wp2_with fail
  go_at_call 52; refine (next_no b 2 d u s _ HP1.out HK.out).mono ?_; rintro e w1 ⟨rfl, N1, hb1⟩
  have HN1 := Lib.hid N1
  have HP2 := Lib.hid (HP1.out.nb N1 hb1)
  clear N1 hb1
  unfold tokV
  go_wp2_with fail
  go_ret
  exact ⟨rfl, (((NB.refl b w).set 0 _).trans HN1.out).alloc _, HP2.out.nb ((NB.refl _ _).alloc _) (heap_alloc_old _ _ HP2.out.cells)⟩
set_option maxRecDepth 100000 in
set_option maxHeartbeats 16000000 in
theorem row_long (b : Nat) (d : Dr.Draft) (t u : Lx.Tok) (s : List Lx.Tok) (w : World) (h : PR b w d (t :: u :: s)) (hne : d.decks ≠ []) (hl : (d.decks.getLastD []).length < 4096) (hk2 : u.kind = 2) (hs : 1 ≤ s.length) (hx : 4096 < u.text.length) :
    Calls Tryz.prog 50 #[.pointer (some ⟨b, 0, none⟩)] w fun e w' => e = .returned (.int .i64 6) ∧ NB b w w' := by
  have hlt := h.cells
  obtain ⟨lv, dv, iv, h0, hT, hD, hI⟩ := h
  obtain ⟨g, off, n, cap, rfl, hg, hn, hn1, hn2, hnc, hcm, q0, q1, q2, q3⟩ := hT.head
  have c0 : w.cell? ⟨b, 0, none⟩ = some (.slice (some ⟨g, off, none⟩) n cap) := cell_of_heap h0 0 rfl
  have f0 : w.frozen? ⟨b, 0, none⟩ = false := free_of_heap h0 0
  have hn3 : 2 ≤ n := by have := hn.out; simp at this; omega
  have hcap : ¬ cap = 1 := by omega
  have hcap1 : 1 ≤ cap := by omega
  have nI : (1 : Int) ≤ (n : Int) := by omega
  have nI2 : (1 : Int) ≤ (cap : Int) := by omega
  have HP1 : Hid (PR b (w.setCell ⟨b, 0, none⟩ (.slice (some ⟨g, off + 4, none⟩) (n - 1) (cap - 1))) d (u :: s)) := Lib.hid (PR.adv h0 hD hI ((NB.refl b w).set 0 _) (by rw [set_heap h0]; rfl) hT.tail)
  obtain ⟨dvs, c, hdv, hdl, hbc, hcw, hdk⟩ := hD
  obtain ⟨m, u0, hm, hu, hou⟩ := DK.last hdl hdk hne
  obtain ⟨gd, cd, hdvE⟩ : ∃ g cd, dv = .slice (some ⟨g, 0, none⟩) d.decks.length cd := by
    rcases hdv.2 with ⟨-, h⟩ | ⟨g, cap, cur, h, -⟩
    · omega
    · exact ⟨g, cap, h⟩
  obtain ⟨a2, ca2, hue, hl2⟩ := own_slice hou
  subst hdvE
  subst hue
  have c1 : w.cell? ⟨b, 1, none⟩ = some (.slice (some ⟨gd, 0, none⟩) d.decks.length cd) := cell_of_heap h0 1 rfl
  have x1 : w.cell? ⟨gd, m, none⟩ = some (.slice a2 (d.decks.getLastD []).length ca2) := by
    have := hdv.cells (g := gd) rfl m _ hu
    have e2 : ((⟨gd, 0, none⟩ : Addr).add m) = ⟨gd, m, none⟩ := by unfold Addr.add; split <;> simp_all
    rw [e2] at this; exact this
  obtain ⟨dn, hdn⟩ : ∃ dn, dn = d.decks.length := ⟨_, rfl⟩
  rw [← hdn] at c1 hm
  obtain ⟨k, hk⟩ : ∃ k, k = (d.decks.getLastD []).length := ⟨_, rfl⟩
  rw [← hk] at x1 hl hl2
  obtain rfl : dn = m + 1 := hm.symm
  have hn9 : m + 1 ≤ 9223372036854775807 := by obtain ⟨_, _, _, h⟩ := own_slice hdv; omega
  have hgb : gd ≠ b := by have := World.ownsRow.lt hdv gd rfl; omega
  have mI0 : (0 : Int) ≤ (m : Int) := by omega
  have mI1 : (m : Int) < (m : Int) + 1 := by omega
  have mI2 : (m : Int).toNat = m := by omega
  have mI3 : ((m : Int) + 1 == 0) = false := beq_eq_false_iff_ne.2 (by omega)
  have mI4 : (((m + 1 : Nat) : Int) == 0) = false := beq_eq_false_iff_ne.2 (by omega)
  have kI : (k : Int) < 4096 := by omega
  have HDN := Lib.hid hdn
  have HKL := Lib.hid hk
  clear h0 hT hI hdv hdl hdk hu hou hdn hk
  have HK := Lib.hid hk2
  have hxs := lit_size2 u.text
  have xI : (4096 : Int) < (u.text.length : Int) := by omega
  clear hk2
  go_enter Tryz.func50, Tryz.ntmps50
  go_wp2_with fail
  go_at_call 52; refine (next_ok b 2 d u s _ HP1.out HK.out hs).mono ?_; rintro e w1 ⟨rfl, N1, P1⟩
  have HN1 := Lib.hid N1
  clear N1 P1
  unfold tokV
  go_wp2_with fail
  go_ret
  exact ⟨rfl, (((NB.refl b w).set 0 _).trans HN1.out).alloc _⟩
set_option maxRecDepth 100000 in
set_option maxHeartbeats 16000000 in
theorem row_ok (b : Nat) (d : Dr.Draft) (t u : Lx.Tok) (s : List Lx.Tok) (w : World) (h : PR b w d (t :: u :: s)) (hne : d.decks ≠ []) (hl : (d.decks.getLastD []).length < 4096) (hk2 : u.kind = 2) (hs : 1 ≤ s.length) (hx : u.text.length ≤ 4096) :
    Calls Tryz.prog 50 #[.pointer (some ⟨b, 0, none⟩)] w fun e w' => e = .returned (.int .i64 0) ∧ PR b w' ⟨d.decks.dropLast ++ [d.decks.getLastD [] ++ [u.text]], d.items⟩ s ∧ Below b w w' := by
  obtain ⟨i0, hi0, hz0, hz1, hz2⟩ := info_parts Tryz.strInfo
  have hlt := h.cells
  obtain ⟨lv, dv, iv, h0, hT, hD, hI⟩ := h
  obtain ⟨g, off, n, cap, rfl, hg, hn, hn1, hn2, hnc, hcm, q0, q1, q2, q3⟩ := hT.head
  have c0 : w.cell? ⟨b, 0, none⟩ = some (.slice (some ⟨g, off, none⟩) n cap) := cell_of_heap h0 0 rfl
  have f0 : w.frozen? ⟨b, 0, none⟩ = false := free_of_heap h0 0
  have hn3 : 2 ≤ n := by have := hn.out; simp at this; omega
  have hcap : ¬ cap = 1 := by omega
  have hcap1 : 1 ≤ cap := by omega
  have nI : (1 : Int) ≤ (n : Int) := by omega
  have nI2 : (1 : Int) ≤ (cap : Int) := by omega
  have HP1 : Hid (PR b (w.setCell ⟨b, 0, none⟩ (.slice (some ⟨g, off + 4, none⟩) (n - 1) (cap - 1))) d (u :: s)) := Lib.hid (PR.adv h0 hD hI ((NB.refl b w).set 0 _) (by rw [set_heap h0]; rfl) hT.tail)
  obtain ⟨dvs, c, hdv, hdl, hbc, hcw, hdk⟩ := hD
  obtain ⟨m, u0, hm, hu, hou⟩ := DK.last hdl hdk hne
  obtain ⟨gd, cd, hdvE⟩ : ∃ g cd, dv = .slice (some ⟨g, 0, none⟩) d.decks.length cd := by
    rcases hdv.2 with ⟨-, h⟩ | ⟨g, cap, cur, h, -⟩
    · omega
    · exact ⟨g, cap, h⟩
  obtain ⟨a2, ca2, hue, hl2⟩ := own_slice hou
  subst hdvE
  subst hue
  have c1 : w.cell? ⟨b, 1, none⟩ = some (.slice (some ⟨gd, 0, none⟩) d.decks.length cd) := cell_of_heap h0 1 rfl
  have x1 : w.cell? ⟨gd, m, none⟩ = some (.slice a2 (d.decks.getLastD []).length ca2) := by
    have := hdv.cells (g := gd) rfl m _ hu
    have e2 : ((⟨gd, 0, none⟩ : Addr).add m) = ⟨gd, m, none⟩ := by unfold Addr.add; split <;> simp_all
    rw [e2] at this; exact this
  obtain ⟨dn, hdn⟩ : ∃ dn, dn = d.decks.length := ⟨_, rfl⟩
  rw [← hdn] at c1 hm
  obtain ⟨k, hk⟩ : ∃ k, k = (d.decks.getLastD []).length := ⟨_, rfl⟩
  rw [← hk] at x1 hl hl2
  obtain rfl : dn = m + 1 := hm.symm
  have hn9 : m + 1 ≤ 9223372036854775807 := by obtain ⟨_, _, _, h⟩ := own_slice hdv; omega
  have hgb : gd ≠ b := by have := World.ownsRow.lt hdv gd rfl; omega
  have mI0 : (0 : Int) ≤ (m : Int) := by omega
  have mI1 : (m : Int) < (m : Int) + 1 := by omega
  have mI2 : (m : Int).toNat = m := by omega
  have mI3 : ((m : Int) + 1 == 0) = false := beq_eq_false_iff_ne.2 (by omega)
  have mI4 : (((m + 1 : Nat) : Int) == 0) = false := beq_eq_false_iff_ne.2 (by omega)
  have kI : (k : Int) < 4096 := by omega
  have HDN := Lib.hid hdn
  have HKL := Lib.hid hk
  clear h0 hT hI hdv hdl hdk hu hou hdn hk
  have HK := Lib.hid hk2
  have hxs := lit_size2 u.text
  have xI : (u.text.length : Int) ≤ 4096 := by omega
  have HNE := Lib.hid hne
  clear hk2 hne
  go_enter Tryz.func50, Tryz.ntmps50
  go_wp2_with fail
  go_at_call 52; refine (next_ok b 2 d u s _ HP1.out HK.out hs).mono ?_; rintro e w1 ⟨rfl, N1, P1⟩
  have HN1 := Lib.hid N1
  have hlt1 := P1.cells
  have hne := HNE.out
  obtain ⟨lv1, dv1, iv1, h01, hT1, hD1, hI1⟩ := P1
  obtain ⟨dvs1, c1', hdv1, hdl1, hbc1, hcw1, hdk1⟩ := hD1
  obtain ⟨m1, u1, hm1, hu1, hou1⟩ := DK.last hdl1 hdk1 hne
  obtain ⟨gd1, cd1, hdvE1⟩ : ∃ g cd, dv1 = .slice (some ⟨g, 0, none⟩) d.decks.length cd := by
    rcases hdv1.2 with ⟨-, h⟩ | ⟨g, cap, cur, h, -⟩
    · omega
    · exact ⟨g, cap, h⟩
  obtain ⟨a21, ca21, hue1, hl21⟩ := own_slice hou1
  have hmm : m1 = m := by have := HDN.out; omega
  subst hmm
  rw [← HDN.out] at hdvE1
  have y1 : w1.cell? ⟨b, 1, none⟩ = some (.slice (some ⟨gd1, 0, none⟩) (m1 + 1) cd1) := cell_of_heap h01 1 (by rw [hdvE1]; rfl)
  have y2 : w1.cell? ⟨gd1, m1, none⟩ = some u1 := by
    have := hdv1.cells (g := gd1) (by rw [hdvE1]; rfl) m1 _ hu1
    have e2 : ((⟨gd1, 0, none⟩ : Addr).add m1) = ⟨gd1, m1, none⟩ := by unfold Addr.add; split <;> simp_all
    rw [e2] at this; exact this
  have y3 : w1.frozen? ⟨gd1, m1, none⟩ = false := by
    have hf := hdv1
    rw [hdvE1, ← HDN.out] at hf; exact World.ownsRow.frozenAt hf m1
  have hgl1 : gd1 < w1.heap.size := (World.ownsRow.lt hdv1 gd1 (by rw [hdvE1]; rfl)).2
  have ne1 : u1.ownBlock ≠ some gd1 := by
    rcases hdv1.2 with ⟨h, -⟩ | ⟨g, cap, cur, h, hb, hh, -⟩
    · rw [hdvE1] at h; cases h
    · have e := congrArg Value.ownBlock (hdvE1.symm.trans h)
      simp [Value.ownBlock] at e
      subst e; exact own_ne hou1 hh (by decide)
  have HOU1 := Lib.hid hou1
  have HH1 := Lib.hid h01
  have HT1 := Lib.hid hT1
  have HI1 := Lib.hid hI1
  have HDV1 := Lib.hid hdv1
  have HDL1 := Lib.hid hdl1
  have HDK1 := Lib.hid hdk1
  have HU1 := Lib.hid hu1
  have HE1 := Lib.hid hdvE1
  have HUE := Lib.hid hue1
  rw [hue1] at y2 HOU1 HU1 ne1
  rw [hdvE1] at HH1 HDV1
  obtain ⟨last, hlast⟩ : ∃ last, d.decks.getLastD [] = last := ⟨_, rfl⟩
  have HLA := Lib.hid hlast
  rw [hlast] at HOU1 hl21 y2
  have hll : last.length < 4096 := by have := HKL.out; rw [hlast] at this; omega
  have htx : bs (⟨u.text.toArray⟩ : ByteArray) = u.text := bs_lit0 u.text
  have HTX := Lib.hid htx
  have hcw2 := hcw1
  rw [hlast] at HU1 ne1
  clear N1 h01 hT1 hI1 hdv1 hdl1 hdk1 hou1 hu1 hlast htx hne hue1 hdvE1 HE1 HUE hm1
  have mI5 : IntKind.i64.wrap (m1 : Int) = (m1 : Int) := IntWalk.i64_in _ (by omega)
  have ne1 := ne1
  unfold tokV
  obtain ⟨uk, ut, un, ul⟩ := u
  dsimp only at xI hxs HTX HK hx ⊢
  go_wp2_with fail
  go_region_law ((refine step_append_lies _ (by rfl) _ _ _ (by rfl) c1' 9 i0 _ 1 16 Tryz.underlying45 hi0 hz0 hz1 hz2 rfl (by omega) (.slice a21 last.length ca21) last.length (strs last) (by rfl) (((World.ownsRow.alloc HOU1.out _).alloc _).drew) ⟨w1.heap.size + 1, 0, none⟩ 1 1 [.string ⟨ut.toArray⟩] (by rfl) (by rfl) (World.news_of_block (cs := #[.string ⟨ut.toArray⟩]) (t := 9) (fr := (0, 0)) (heap2 w1 _ _)) (by simp [Value.oneCell']) (by omega) (by unfold maxLen; omega) (by omega) (by simp; omega) (w1.heap.size + 2) (by simp) ?_; intro g' cap' w2 hown2 hgrow hat hlt2; have z1 : w2.cell? ⟨b, 1, none⟩ = some (.slice (some ⟨gd1, 0, none⟩) (m1 + 1) cd1) := (hgrow.cell_far ⟨b, 1, none⟩ (by simp; omega) (fun e => by have := (World.ownsRow.lt HOU1.out b e.symm).1; omega)).trans (cl2 y1 hlt1 _ _); have z2 : w2.cell? ⟨gd1, m1, none⟩ = some (.slice a21 last.length ca21) := (hgrow.cell_far ⟨gd1, m1, none⟩ (by simp; omega) (Ne.symm ne1)).trans (cl2 y2 hgl1 _ _); have z3 : w2.frozen? ⟨gd1, m1, none⟩ = false := (hgrow.frozen_far ⟨gd1, m1, none⟩ (by simp; omega) (Ne.symm ne1)).trans (fz2 y3 hgl1 _ _)))
  all_goals
    obtain ⟨e1, e2⟩ := row_end HH1.out HT1.out HI1.out rfl HDN.out rfl HDV1.out HDL1.out hbc1 hcw2 HLA.out HU1.out HOU1.out HDK1.out hown2 hgrow
    have HR1 := Lib.hid e1
    have HR2 := Lib.hid e2
    clear e1 e2 hown2 hgrow hat
    go_wp2_with fail
    go_ret
    exact ⟨rfl, by have h := HR1.out; rw [HTX.out] at h; have e := HLA.out; rw [List.getLastD_eq_getLast?] at e; rw [e]; exact h, ((((NB.refl b w).set 0 _).trans HN1.out).below (Nat.le_refl _) (by omega)).trans HR2.out⟩
end Go.Proofs.YtnccndfffmaonaaGreatDoor
