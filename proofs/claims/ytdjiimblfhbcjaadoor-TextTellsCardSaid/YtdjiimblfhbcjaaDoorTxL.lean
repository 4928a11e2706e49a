/- Walks of package text: Lines, Fields. -/
import Derived.Test.YtdjiimblfhbcjaaDoorTxE
import Derived.Test.YtdjiimblfhbcjaaDoorSl
import Derived.Lib.SplitLaws
import Derived.WalkMore
namespace Go.Proofs.YtdjiimblfhbcjaaDoor
set_option linter.unusedSimpArgs false
open Go.RowKit

/-- A list of strings as values. -/
def strs (l : List (List UInt8)) : List Value := l.map fun x => .string ⟨x.toArray⟩
theorem mk_data (s : ByteArray) : (⟨s.data.toList.toArray⟩ : ByteArray) = s := by simp
theorem strs_data (l : List ByteArray) : strs (l.map fun s => s.data.toList) = l.map Value.string := by
  unfold strs; rw [List.map_map]
  apply List.map_congr_left; intro s _; simp

def lines (l : List UInt8) : List (List UInt8) := if l = [] then [] else Lib.split (Lib.trimSuffix l [10]) [10]
def white (n : Nat) : Bool := n == 32 || n == 9 || n == 10
def fieldsB (s : ByteArray) : List (List UInt8) := (Lib.goFieldsP white s).map fun s => s.data.toList

theorem Split_b (s : ByteArray) (w : World) (hE : Env w) (hs : s.size ≤ 1073741824) :
    Calls Tryd.prog 45 #[.string s, .string ⟨#[10]⟩] w fun e w' => ∃ v, e = .returned v ∧ Sl w' v (strs (Lib.split (bs s) [10])) ∧ Below w.heap.size w w' := by
  obtain ⟨m, hm⟩ := hE.mx
  refine (Tryd.strings_Split s ⟨#[10]⟩ m w (by omega) hm (by decide)).mono ?_
  rintro e w' ⟨rfl, rfl⟩
  refine ⟨_, rfl, ?_, (Below.refl _ w).alloc (Nat.le_refl _) _⟩
  have hd := Lib.splitB_data ⟨#[10]⟩ 0 (Lib.countB s ⟨#[10]⟩) s
  have hl := Lib.splitB_all ⟨#[10]⟩ (by decide) 0 (Lib.countB s ⟨#[10]⟩) s rfl
  have hst : strs (Lib.split (bs s) [10]) = (Lib.splitB ⟨#[10]⟩ 0 (Lib.countB s ⟨#[10]⟩) s).map Value.string := by
    rw [← strs_data, hd]; rfl
  have hcl : Lib.countB s ⟨#[10]⟩ ≤ s.size + 1 := by
    have := Lib.count_le (bs s) [10]
    rw [bs_len] at this; exact this
  have hlen : (strs (Lib.split (bs s) [10])).length = Lib.countB s ⟨#[10]⟩ + 1 := by rw [hst, List.length_map, hl]
  refine ⟨some ⟨w.heap.size, 0, none⟩, Lib.countB s ⟨#[10]⟩ + 1, by rw [hlen], by rw [hlen]; unfold maxLen; omega, (fun h => by cases h), fun i hi => ⟨w.heap.size, 0, rfl, ?_⟩⟩
  rw [hlen] at hi
  have hi2 : i < (Lib.splitB ⟨#[10]⟩ 0 (Lib.countB s ⟨#[10]⟩) s).length := by rw [hl]; exact hi
  simp only [World.cell?, World.alloc, Array.getElem?_push_size]
  simp [hst, hi2]

set_option maxHeartbeats 4000000 in
theorem Lines_any (s : ByteArray) (w : World) (hE : Env w) (hs : s.size ≤ 1073741824) :
    Calls Tryd.prog 15 #[.string s] w fun e w' => ∃ v, e = .returned v ∧ Sl w' v (strs (lines (bs s))) ∧ Below w.heap.size w w' := by
  by_cases h0 : s.size = 0
  · have hl : lines (bs s) = [] := by
      rw [lines, if_pos]; exact List.eq_nil_of_length_eq_zero (by rw [bs_len]; exact h0)
    obtain rfl : s = ⟨#[]⟩ := by
      have h : s.data.toList = [] := List.eq_nil_of_length_eq_zero (by rw [← Lib.size_eq]; exact h0)
      rw [← mk_data s, h]
    have HL := Lib.hid hl
    clear hl hE h0
    go_enter Tryd.func15, Tryd.ntmps15
    go_wp2_with fail
    go_ret
    exact ⟨_, rfl, by rw [HL.out]; exact Sl.nil w, Below.refl _ _⟩
  · have hne : bs s ≠ [] := fun e => h0 (by rw [← bs_len, e]; rfl)
    have hl : lines (bs s) = Lib.split (Lib.trimSuffix (bs s) [10]) [10] := by rw [lines, if_neg hne]
    have hT := fun w => Tryd.strings_TrimSuffix s ⟨#[10]⟩ w (by omega)
    have hq : (s.toList == []) = false := by rw [toList_bs]; exact beq_eq_false_iff_ne.2 hne
    have hts : (ByteArray.mk (Lib.trimSuffix (bs s) [10]).toArray).size ≤ 1073741824 := by
      rw [Lib.size_eq]; simp only [List.toList_toArray]
      refine Nat.le_trans (?_ : _ ≤ (bs s).length) (by rw [bs_len]; exact hs)
      unfold Lib.trimSuffix; split
      · rw [List.length_take]; omega
      · omega
    have hS := fun w hE => Split_b ⟨(Lib.trimSuffix (bs s) [10]).toArray⟩ w hE hts
    rw [show bs ⟨(Lib.trimSuffix (bs s) [10]).toArray⟩ = Lib.trimSuffix (bs s) [10] by simp [bs], ← hl] at hS
    obtain ⟨T, hTT⟩ : ∃ T, T = Lib.trimSuffix (bs s) [10] := ⟨_, rfl⟩
    replace hT : ∀ w, Calls Tryd.prog 46 #[.string s, .string ⟨#[10]⟩] w fun e w' => e = .returned (.string ⟨T.toArray⟩) ∧ w' = w := by rw [hTT]; exact hT
    rw [← hTT] at hS
    obtain ⟨X, hX⟩ : ∃ X, X = strs (lines (bs s)) := ⟨_, rfl⟩
    rw [← hX] at hS ⊢
    have HT := Lib.hid hT
    have HS := Lib.hid hS
    have HE := Lib.hid hE
    clear hT hS hE hl hTT hX hts hne h0
    go_enter Tryd.func15, Tryd.ntmps15
    go_wp2_with fail
    go_at_call 46; refine (HT.out _).mono ?_; rintro e w' ⟨rfl, rfl⟩
    go_wp2_with fail
    go_at_call 45; refine (HS.out _ HE.out).mono ?_; rintro e w' ⟨v, rfl, h1, h2⟩
    have H1 := Lib.hid h1
    clear h1
    go_wp2_with fail
    go_ret
    exact ⟨_, rfl, H1.out, h2⟩

theorem clo_pays (w : World) : PredAtRunes Tryd.prog 51 #[] white w := by
  intro W x hx hb
  show Calls Tryd.prog 51 #[.int .i32 (x : Int)] W _
  obtain ⟨r, hr⟩ : ∃ r, r = white x := ⟨_, rfl⟩
  rw [← hr]
  unfold white at hr
  by_cases h1 : x = 32
  · have e1 : ((x : Int) == 32) = true := by rw [beq_iff_eq]; omega
    have HR : Hid (r = true) := Lib.hid (by rw [hr, h1]; rfl)
    clear h1 hr
    go_enter Tryd.func51, Tryd.ntmps51
    go_wp2_with fail
    go_ret
    exact ⟨ret_bool HR.out.symm, 0, rfl⟩
  · have e1 : ((x : Int) == 32) = false := by rw [beq_eq_false_iff_ne]; omega
    by_cases h2 : x = 9
    · have e2 : ((x : Int) == 9) = true := by rw [beq_iff_eq]; omega
      have HR : Hid (r = true) := Lib.hid (by rw [hr, h2]; rfl)
      clear h1 h2 hr
      go_enter Tryd.func51, Tryd.ntmps51
      go_wp2_with fail
      go_ret
      exact ⟨ret_bool HR.out.symm, 0, rfl⟩
    · have e2 : ((x : Int) == 9) = false := by rw [beq_eq_false_iff_ne]; omega
      by_cases h3 : x = 10
      · have e3 : ((x : Int) == 10) = true := by rw [beq_iff_eq]; omega
        have HR : Hid (r = true) := Lib.hid (by rw [hr, h3]; rfl)
        clear h1 h2 h3 hr
        go_enter Tryd.func51, Tryd.ntmps51
        go_wp2_with fail
        go_ret
        exact ⟨ret_bool HR.out.symm, 0, rfl⟩
      · have e3 : ((x : Int) == 10) = false := by rw [beq_eq_false_iff_ne]; omega
        have HR : Hid (r = false) := Lib.hid (by rw [hr]; simp [h1, h2, h3])
        clear h1 h2 h3 hr
        go_enter Tryd.func51, Tryd.ntmps51
        go_wp2_with fail
        go_ret
        exact ⟨ret_bool HR.out.symm, 0, rfl⟩

set_option maxHeartbeats 4000000 in
theorem Fields_any (s : ByteArray) (w : World) (hs : s.size ≤ 1073741824) :
    Calls Tryd.prog 17 #[.string s] w fun e w' => ∃ v, e = .returned v ∧ (∃ A n, v = .slice (some ⟨A, 0, none⟩) n n ∧ w'.ownsRow w.heap.size 9 1 v n (strs (fieldsB s)) ∧ n = (fieldsB s).length) ∧ Below w.heap.size w w' := by
  have cF := fun w => Tryd.strings_FieldsFunc_runes 51 #[] (enters_of Tryd.func51 (by kernel_rfl) rfl) white s w (by omega) (clo_pays w)
  rw [← strs_data] at cF
  have hf : (Lib.goFieldsP white s).length = (fieldsB s).length := by simp [fieldsB]
  rw [hf] at cF
  change ∀ w, Calls _ _ _ w fun e w' => ∃ A, _ ∧ _ ∧ w'.ownsRow _ _ _ _ _ (strs (fieldsB s)) ∧ _ at cF
  generalize fieldsB s = FS at cF ⊢
  have CF := Lib.hid cF
  clear cF hf
  go_enter Tryd.func17, Tryd.ntmps17
  go_wp2_with fail
  go_at_call 50; refine (CF.out _).mono ?_; rintro e w' ⟨A, rfl, hA, hown, hb⟩
  have HO := Lib.hid hown
  clear hown
  go_wp2_with fail
  go_ret
  exact ⟨_, rfl, ⟨A, _, rfl, HO.out, rfl⟩, hb⟩
end Go.Proofs.YtdjiimblfhbcjaaDoor
