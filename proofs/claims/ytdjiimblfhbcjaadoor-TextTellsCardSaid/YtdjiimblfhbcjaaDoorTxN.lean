/- Lines and fields: the plain law. -/
import Derived.Test.YtdjiimblfhbcjaaDoorTxL
import Derived.Lib.SpaceUEq
namespace Go.Proofs.YtdjiimblfhbcjaaDoor
set_option linter.unusedSimpArgs false

/-- Lines, with what stands of the line so far. -/
def lnA (now : List UInt8) : List UInt8 → List (List UInt8)
  | [] => if now = [] then [] else [now]
  | c :: r => if c = 10 then now :: lnA [] r else lnA (now ++ [c]) r
/-- Pieces between line feeds. -/
def spA (now : List UInt8) : List UInt8 → List (List UInt8)
  | [] => [now]
  | c :: r => if c = 10 then now :: spA [] r else spA (now ++ [c]) r
def wh (c : UInt8) : Bool := c == 32 || c == 9 || c == 10
/-- Fields, with what stands of the field so far. -/
def fd (now : List UInt8) : List UInt8 → List (List UInt8)
  | [] => if now = [] then [] else [now]
  | c :: r => if wh c then (if now = [] then fd [] r else now :: fd [] r) else fd (now ++ [c]) r
def unl (l : List (List UInt8)) : List UInt8 := l.flatMap (· ++ [10])

def addHead (now : List UInt8) : List (List UInt8) → List (List UInt8)
  | [] => [now]
  | p :: ps => (now ++ p) :: ps
theorem addHead_nil {l : List (List UInt8)} (h : l ≠ []) : addHead [] l = l := by cases l with | nil => exact absurd rfl h | cons p ps => rfl
theorem addHead_addHead (a b : List UInt8) (l : List (List UInt8)) : addHead a (addHead b l) = addHead (a ++ b) l := by cases l <;> simp [addHead]
theorem split_ne (l : List UInt8) : Lib.split l [10] ≠ [] := by
  unfold Lib.split
  cases Lib.count l [10] with
  | zero => simp [Lib.splitK]
  | succ k => unfold Lib.splitK; split <;> simp
theorem split_feed (r : List UInt8) : Lib.split (10 :: r) [10] = [] :: Lib.split r [10] := by
  have hi : Lib.index (10 :: r) [10] = 0 := by rw [Lib.index]; simp [List.isPrefixOf]
  unfold Lib.split
  rw [Lib.count_cons_eq, show 1 + Lib.count r [10] = Lib.count r [10] + 1 by omega, Lib.splitK, hi]
  simp
theorem split_other {c : UInt8} (h : c ≠ 10) (r : List UInt8) : Lib.split (c :: r) [10] = addHead [c] (Lib.split r [10]) := by
  have hp : ([10] : List UInt8).isPrefixOf (c :: r) = false := by simp [List.isPrefixOf, Ne.symm h]
  have hix : Lib.index (c :: r) [10] = if Lib.index r [10] == -1 then -1 else Lib.index r [10] + 1 := by rw [Lib.index, hp]; simp
  unfold Lib.split
  rw [Lib.count_cons_ne c 10 r h]
  cases hk : Lib.count r [10] with
  | zero => rfl
  | succ k =>
    have hne : Lib.index r [10] ≠ -1 := fun e => by rw [Lib.count_miss e] at hk; cases hk
    have hge := Lib.index_ge r [10]
    obtain ⟨j, hj⟩ : ∃ j : Nat, Lib.index r [10] = j := ⟨(Lib.index r [10]).toNat, by omega⟩
    have hix' : Lib.index (c :: r) [10] = ((j + 1 : Nat) : Int) := by rw [hix, if_neg (fun e => hne (beq_iff_eq.1 e)), hj]; omega
    rw [Lib.splitK, Lib.splitK, hix', hj, if_neg (by simp; omega), if_neg (by simp)]
    simp [addHead]
theorem spA_split : ∀ (l now : List UInt8), spA now l = addHead now (Lib.split l [10])
  | [], now => by rw [spA, show Lib.split [] [10] = [[]] by decide]; simp [addHead]
  | c :: r, now => by
    by_cases h : c = 10
    · subst h
      rw [spA, if_pos rfl, spA_split r, split_feed, addHead_nil (split_ne r)]; simp [addHead]
    · rw [spA, if_neg h, spA_split r, split_other h, addHead_addHead]
theorem lnA_feed : ∀ (m now : List UInt8), lnA now (m ++ [10]) = spA now m
  | [], now => by simp [lnA, spA]
  | c :: r, now => by
    show lnA now (c :: (r ++ [10])) = _
    by_cases h : c = 10
    · rw [lnA, spA, if_pos h, if_pos h, lnA_feed r]
    · rw [lnA, spA, if_neg h, if_neg h, lnA_feed r]
theorem lnA_spA : ∀ (l now : List UInt8), (now ≠ [] ∨ l ≠ []) → l.getLast? ≠ some 10 → lnA now l = spA now l
  | [], now, h, _ => by rcases h with h | h; · rw [lnA, spA, if_neg h]
                        · exact absurd rfl h
  | c :: r, now, _, h2 => by
    by_cases h : c = 10
    · rw [lnA, spA, if_pos h, if_pos h]
      have hr : r ≠ [] := by rintro rfl; subst h; exact h2 rfl
      rw [lnA_spA r [] (.inr hr) (by rwa [List.getLast?_cons_of_ne_nil hr] at h2)]
    · rw [lnA, spA, if_neg h, if_neg h]
      by_cases hr : r = []
      · subst hr; exact lnA_spA [] _ (.inl (by simp)) (by simp)
      · exact lnA_spA r _ (.inr hr) (by rwa [List.getLast?_cons_of_ne_nil hr] at h2)
theorem lines_eq (l : List UInt8) : lines l = lnA [] l := by
  unfold lines
  by_cases h : l = []
  · subst h; rfl
  · rw [if_neg h]
    by_cases h10 : l.getLast? = some 10
    · obtain ⟨m, rfl⟩ := List.getLast?_eq_some_iff.1 h10
      have ht : Lib.trimSuffix (m ++ [10]) [10] = m := by
        unfold Lib.trimSuffix
        rw [if_pos (by simp [Lib.hasSuffix])]; simp
      rw [ht, lnA_feed, spA_split, addHead_nil (split_ne m)]
    · have ht : Lib.trimSuffix l [10] = l := by
        unfold Lib.trimSuffix
        rw [if_neg]
        intro hs
        apply h10
        have h3 : [10].isSuffixOf l = true := hs
        simp at h3
        obtain ⟨t, h3⟩ := h3
        rw [← h3]; simp
      rw [ht, lnA_spA l [] (.inr h) h10, spA_split, addHead_nil (split_ne l)]

theorem lnA_piece : ∀ (p now r : List UInt8), (∀ c ∈ p, c ≠ 10) → lnA now (p ++ 10 :: r) = (now ++ p) :: lnA [] r
  | [], now, r, _ => by simp [lnA]
  | c :: p, now, r, h => by
    show lnA now (c :: (p ++ 10 :: r)) = _
    rw [lnA, if_neg (h c (by simp)), lnA_piece p (now ++ [c]) r (fun x hx => h x (by simp [hx]))]
    simp
theorem lines_unl : ∀ (l : List (List UInt8)), (∀ p ∈ l, ∀ c ∈ p, c ≠ 10) → lines (unl l) = l := by
  intro l
  rw [lines_eq]
  induction l with
  | nil => intro _; rfl
  | cons p l ih =>
    intro h
    show lnA [] ((p ++ [10]) ++ unl l) = _
    rw [List.append_assoc]
    show lnA [] (p ++ 10 :: unl l) = _
    rw [lnA_piece p [] _ (h p (by simp)), ih (fun q hq => h q (by simp [hq]))]; rfl
theorem lnA_clean : ∀ (l now : List UInt8), (∀ c ∈ now, c ≠ 10) → ∀ p ∈ lnA now l, ∀ c ∈ p, c ≠ 10
  | [], now, h => by
    rw [lnA]; split
    · intro p hp; cases hp
    · intro p hp; obtain rfl := List.mem_singleton.1 hp; exact h
  | c :: r, now, h => by
    rw [lnA]; split
    · intro p hp
      rcases List.mem_cons.1 hp with rfl | hp
      · exact h
      · exact lnA_clean r [] (by simp) p hp
    · rename_i hc
      exact lnA_clean r (now ++ [c]) (by intro x hx; rcases List.mem_append.1 hx with hx | hx; exact h x hx; obtain rfl := List.mem_singleton.1 hx; exact hc)
theorem unl_lnA : ∀ (l now : List UInt8), unl (lnA now l) = now ++ l ++ (if (now ≠ [] ∨ l ≠ []) ∧ l.getLast? ≠ some 10 then [10] else [])
  | [], now => by
    rw [lnA]; by_cases h : now = []
    · subst h; simp [unl]
    · rw [if_neg h]; simp [unl, h]
  | c :: r, now => by
    rw [lnA]
    by_cases hc : c = 10
    · subst hc
      rw [if_pos rfl]
      show (now ++ [10]) ++ unl (lnA [] r) = _
      rw [unl_lnA r []]
      by_cases hr : r = []
      · subst hr; simp
      · rw [List.getLast?_cons_of_ne_nil hr]; simp [hr]
    · rw [if_neg hc, unl_lnA r (now ++ [c])]
      by_cases hr : r = []
      · subst hr; simp [hc]
      · rw [List.getLast?_cons_of_ne_nil hr]; simp [hr]
theorem unl_lines (l : List UInt8) : unl (lines l) = l ++ (if l ≠ [] ∧ l.getLast? ≠ some 10 then [10] else []) := by
  rw [lines_eq, unl_lnA]; simp
theorem fd_feed : ∀ (x now r : List UInt8), fd now (x ++ 10 :: r) = fd now x ++ fd [] r
  | [], now, r => by
    show fd now (10 :: r) = fd now [] ++ fd [] r
    have h1 : fd now (10 :: r) = if now = [] then fd [] r else now :: fd [] r := by rw [fd, if_pos (show wh 10 = true by decide)]
    have h2 : fd now [] = if now = [] then [] else [now] := by rw [fd]
    rw [h1, h2]; split <;> rfl
  | c :: x, now, r => by
    show fd now (c :: (x ++ 10 :: r)) = _
    rw [fd, fd]; split
    · split
      · exact fd_feed x [] r
      · rw [fd_feed x [] r]; rfl
    · exact fd_feed x _ r
theorem fd_lnA : ∀ (l cur : List UInt8), (lnA cur l).flatMap (fd []) = fd [] (cur ++ l)
  | [], cur => by
    rw [lnA]; by_cases h : cur = []
    · subst h; rfl
    · rw [if_neg h]; simp
  | c :: r, cur => by
    rw [lnA]; by_cases hc : c = 10
    · subst hc
      rw [if_pos rfl, List.flatMap_cons, fd_lnA r [], fd_feed]; rfl
    · rw [if_neg hc, fd_lnA r]; simp
theorem fd_lines (l : List UInt8) : (lines l).flatMap (fd []) = fd [] l := by rw [lines_eq]; exact fd_lnA l []
theorem fd_good : ∀ (l now : List UInt8), (∀ c ∈ now, wh c = false) → ∀ p ∈ fd now l, p ≠ [] ∧ ∀ c ∈ p, wh c = false
  | [], now, h => by
    rw [fd]; split
    · intro p hp; cases hp
    · rename_i hn; intro p hp; obtain rfl := List.mem_singleton.1 hp; exact ⟨hn, h⟩
  | c :: r, now, h => by
    rw [fd]; split
    · split
      · exact fd_good r [] (by simp)
      · rename_i hn
        intro p hp
        rcases List.mem_cons.1 hp with rfl | hp
        · exact ⟨hn, h⟩
        · exact fd_good r [] (by simp) p hp
    · rename_i hc
      exact fd_good r (now ++ [c]) (by intro x hx; rcases List.mem_append.1 hx with hx | hx; exact h x hx; obtain rfl := List.mem_singleton.1 hx; simpa using hc)
theorem fd_skip : ∀ (k : Nat) (now l : List UInt8), k ≤ l.length → (∀ j, (h : j < l.length) → j < k → wh l[j] = false) → fd now l = fd (now ++ l.take k) (l.drop k)
  | 0, now, l, _, _ => by simp
  | k + 1, now, [], h, _ => by simp at h
  | k + 1, now, c :: r, h, hw => by
    have h0 := hw 0 (by simp) (by omega)
    simp only [List.getElem_cons_zero] at h0
    rw [fd, if_neg (by simp [h0]), fd_skip k _ r (by simp at h; omega) (fun j hj hk => by have := hw (j + 1) (by simp; omega) (by omega); simpa using this)]
    simp

theorem wh_white (c : UInt8) : white c.toNat = wh c := by
  unfold white wh
  have e : ∀ d : UInt8, (c.toNat == d.toNat) = (c == d) := by
    intro d; by_cases h : c = d
    · subst h; simp
    · rw [beq_eq_false_iff_ne.2 h, beq_eq_false_iff_ne.2 (fun e => h (UInt8.toNat_inj.1 e))]
  rw [← e 32, ← e 9, ← e 10]; rfl
theorem wh_high {c : UInt8} (h : 128 ≤ c.toNat) : wh c = false := by
  rw [← wh_white]; unfold white
  simp; omega

theorem ex_snoc (s : ByteArray) (a pos w : Nat) (h1 : a ≤ pos) : bs (s.extract a (pos + w)) = bs (s.extract a pos) ++ ((bs s).drop pos).take w := by
  rw [bs_extract, bs_extract, show pos + w - a = (pos - a) + w by omega, List.take_add, List.drop_drop, show a + (pos - a) = pos by omega]
theorem ex_self (s : ByteArray) (a : Nat) : bs (s.extract a a) = [] := by rw [bs_extract, Nat.sub_self]; rfl
theorem rune_bytes (s : ByteArray) (pos : Nat) (h : pos < s.size) (hw : white (Utf8.decode s pos).1 = false) :
    1 ≤ (Utf8.decode s pos).2 ∧ pos + (Utf8.decode s pos).2 ≤ s.size ∧ ∀ j, (hj : j < ((bs s).drop pos).length) → j < (Utf8.decode s pos).2 → wh ((bs s).drop pos)[j] = false := by
  have e := Lib.decode_N s pos
  have hl : (bs s).length = s.size := bs_len s
  have hg : ∀ i, (hi : pos + i < s.size) → (s.data.toList.getD (pos + i) 0) = ((bs s).drop pos)[i]'(by rw [List.length_drop, hl]; omega) := by
    intro i hi
    rw [List.getElem_drop, List.getD_eq_getElem?_getD]
    show ((bs s)[pos + i]?).getD 0 = _
    rw [List.getElem?_eq_getElem (by rw [hl]; exact hi)]; rfl
  have c := Lib.decodeN_conts (s.data.toList.length - pos) (s.data.toList.getD pos 0).toNat (s.data.toList.getD (pos + 1) 0).toNat (s.data.toList.getD (pos + 2) 0).toNat (s.data.toList.getD (pos + 3) 0).toNat
  have w1 := Lib.decodeN_ge1 (s.data.toList.length - pos) (s.data.toList.getD pos 0).toNat (s.data.toList.getD (pos + 1) 0).toNat (s.data.toList.getD (pos + 2) 0).toNat (s.data.toList.getD (pos + 3) 0).toNat
  have hlen : s.data.toList.length = s.size := hl
  by_cases h0 : (s.data.toList.getD pos 0).toNat < 128
  · have ea := Lib.decodeN_ascii (s.data.toList.length - pos) _ (s.data.toList.getD (pos + 1) 0).toNat (s.data.toList.getD (pos + 2) 0).toNat (s.data.toList.getD (pos + 3) 0).toNat h0
    rw [← e] at ea
    rw [ea] at hw ⊢
    refine ⟨by simp, by simp; omega, ?_⟩
    intro j hj hj1
    simp at hj1; subst hj1
    rw [← hg 0 (by omega), ← wh_white]; exact hw
  · rw [← e] at c w1
    obtain ⟨c2, c3, c4, c5⟩ := c
    refine ⟨w1, ?_, ?_⟩
    · rcases Nat.lt_or_ge (Utf8.decode s pos).2 2 with h2 | h2
      · omega
      · rcases Nat.lt_or_ge (Utf8.decode s pos).2 3 with h3 | h3
        · have := (c2 h2).2; omega
        · rcases Nat.lt_or_ge (Utf8.decode s pos).2 4 with h4 | h4
          · have := (c3 h3).2; omega
          · have := (c4 h4).2; omega
    · intro j hj hj1
      have hj' : pos + j < s.size := by rw [List.length_drop, hl] at hj; omega
      rw [← hg j hj']
      apply wh_high
      rcases (show j = 0 ∨ j = 1 ∨ j = 2 ∨ j = 3 by omega) with rfl | rfl | rfl | rfl
      · rw [Nat.add_zero]; omega
      · have := (c2 (by omega)).1; omega
      · have := (c3 (by omega)).1; omega
      · have := (c4 (by omega)).1; omega
theorem rune_white (s : ByteArray) (pos : Nat) (h : pos < s.size) (hw : white (Utf8.decode s pos).1 = true) : (Utf8.decode s pos).2 = 1 ∧ wh s[pos] = true := by
  have e := Lib.decode_N s pos
  have hg : s.data.toList.getD pos 0 = s[pos] := by
    rw [List.getD_eq_getElem?_getD]
    show ((bs s)[pos]?).getD 0 = _
    rw [bs_get s pos h]; rfl
  have hlow : (Utf8.decode s pos).1 < 128 := by
    unfold white at hw; simp at hw; omega
  rcases Lib.decodeN_cases (s.data.toList.length - pos) (s.data.toList.getD pos 0).toNat (s.data.toList.getD (pos + 1) 0).toNat (s.data.toList.getD (pos + 2) 0).toNat (s.data.toList.getD (pos + 3) 0).toNat with ⟨_, h1⟩ | ⟨_, _, _, h2, h1⟩ | ⟨_, _, _, _, h2, h1⟩ | ⟨h1, _⟩ | h1
  · rw [← e] at h1
    rw [h1] at hw ⊢
    refine ⟨rfl, ?_⟩
    rw [← wh_white, ← hg]; exact hw
  · rw [← e] at h1; rw [h1] at hlow; dsimp only at hlow; omega
  · rw [← e] at h1; rw [h1] at hlow; dsimp only at hlow; omega
  · rw [← e] at h1; omega
  · rw [← e] at h1; rw [h1] at hlow; dsimp only at hlow; omega
def nowOf (s : ByteArray) (pos : Nat) : Option Nat → List UInt8
  | some a => bs (s.extract a pos)
  | none => []
theorem spans_fd (s : ByteArray) : ∀ (f pos : Nat) (st : Option Nat) (acc : List (Nat × Nat)), s.size - pos ≤ f → pos ≤ s.size → (∀ a, st = some a → a < pos) →
    (Lib.closeSpans s (Lib.spansFromP white s f pos st acc)).map (fun x => bs (s.extract x.1 x.2)) = acc.map (fun x => bs (s.extract x.1 x.2)) ++ fd (nowOf s pos st) ((bs s).drop pos) := by
  have hend : ∀ (pos : Nat) (st : Option Nat) (acc : List (Nat × Nat)), pos = s.size → (∀ a, st = some a → a < pos) →
      (Lib.closeSpans s (acc, st)).map (fun x => bs (s.extract x.1 x.2)) = acc.map (fun x => bs (s.extract x.1 x.2)) ++ fd (nowOf s pos st) ((bs s).drop pos) := by
    rintro pos st acc rfl hst
    rw [List.drop_eq_nil_of_le (by rw [bs_len]; exact Nat.le_refl _), fd]
    cases st with
    | none => simp [Lib.closeSpans, nowOf]
    | some a =>
      have ha := hst a rfl
      have hne : bs (s.extract a s.size) ≠ [] := by
        intro e0
        have := congrArg List.length e0
        rw [bs_extract, List.length_take, List.length_drop, bs_len] at this; simp at this; omega
      show _ = _ ++ (if bs (s.extract a s.size) = [] then [] else [bs (s.extract a s.size)])
      rw [if_neg hne]; simp [Lib.closeSpans]
  intro f
  induction f with
  | zero =>
    intro pos st acc hf hp hst
    exact hend pos st acc (by omega) hst
  | succ f ih =>
    intro pos st acc hf hp hst
    unfold Lib.spansFromP
    by_cases hlt : pos < s.size
    · rw [if_pos hlt]
      cases hw : white (Utf8.decode s pos).1 with
      | true =>
        obtain ⟨h1, h2⟩ := rune_white s pos hlt hw
        rw [if_pos rfl, h1, bs_drop s pos hlt]
        cases st with
        | none =>
          rw [ih (pos + 1) none acc (by omega) (by omega) (by simp)]
          show _ = _ ++ fd [] (s[pos] :: _)
          rw [fd, if_pos h2, if_pos rfl]; rfl
        | some a =>
          have ha := hst a rfl
          have hne : bs (s.extract a pos) ≠ [] := by
            intro e0
            have := congrArg List.length e0
            rw [bs_extract, List.length_take, List.length_drop, bs_len] at this; simp at this; omega
          dsimp only
          rw [ih (pos + 1) none _ (by omega) (by omega) (by simp)]
          show _ = _ ++ fd (bs (s.extract a pos)) (s[pos] :: _)
          rw [fd, if_pos h2, if_neg hne]
          simp [nowOf]
      | false =>
        obtain ⟨h1, h2, h3⟩ := rune_bytes s pos hlt hw
        rw [if_neg (by simp)]
        have hk : (Utf8.decode s pos).2 ≤ ((bs s).drop pos).length := by rw [List.length_drop, bs_len]; omega
        rw [fd_skip _ _ _ hk h3, List.drop_drop]
        cases st with
        | none =>
          dsimp only
          rw [ih _ (some pos) acc (by omega) h2 (by intro a ha; cases ha; omega)]
          congr 2
          show bs (s.extract pos _) = [] ++ _
          rw [ex_snoc s pos pos _ (Nat.le_refl _), ex_self]
        | some a =>
          have ha := hst a rfl
          dsimp only
          rw [ih _ (some a) acc (by omega) h2 (by intro b hb; cases hb; omega)]
          congr 2
          show bs (s.extract a _) = bs (s.extract a pos) ++ _
          exact ex_snoc s a pos _ (by omega)
    · rw [if_neg hlt]
      exact hend pos st acc (by omega) hst
theorem fields_eq (s : ByteArray) : fieldsB s = fd [] (bs s) := by
  unfold fieldsB Lib.goFieldsP Lib.spansOfP
  rw [List.map_map]
  have := spans_fd s s.size 0 none [] (by omega) (Nat.zero_le _) (by simp)
  exact this.trans (by simp [nowOf])
end Go.Proofs.YtdjiimblfhbcjaaDoor
