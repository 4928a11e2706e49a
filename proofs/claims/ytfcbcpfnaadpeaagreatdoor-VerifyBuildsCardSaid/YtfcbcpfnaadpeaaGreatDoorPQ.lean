/- Parts Qu, WrP, WcP, Bld, Wr0, Wr1 of this claim, laid one behind the other: walks and the plain laws behind them; each contract states its own conditions. -/
import Derived.Lib.ParseIntB
import Derived.Lib.ItoaNum
import Derived.Lib.Bytealg
import Derived.WalkKit
import Derived.Lib.ItoaLen
import Derived.Test.YtfcbcpfnaadpeaaGreatDoorZA
import Derived.Test.YtfcbcpfnaadpeaaGreatDoorRows
import Derived.Shelf.Strings.BuilderK
import Derived.WalkSpells
import Derived.WalkLawsBesides
import Derived.Test.YtfcbcpfnaadpeaaGreatDoorShelf
import Derived.Test.YtfcbcpfnaadpeaaGreatDoorZB
import Derived.WalkSmall
import Derived.ChangeBears2
import Derived.Lib.SmallJoins
/- Quoted strings and decimals in plain words. -/
namespace Go.Proofs.YtfcbcpfnaadpeaaGreatDoor
open Go.RowKit

/-- What two digits make (for the lower-case hexadecimal digits: their value). -/
def ubI (a b : UInt8) : Int := IntKind.u8.wrap (bits BinOp.or IntKind.i64 (IntKind.i64.wrap (Lib.indexByte [48, 49, 50, 51, 52, 53, 54, 55, 56, 57, 97, 98, 99, 100, 101, 102] a * 16)) (Lib.indexByte [48, 49, 50, 51, 52, 53, 54, 55, 56, 57, 97, 98, 99, 100, 101, 102] b))
def ub (a b : UInt8) : UInt8 := (ubI a b).toNat.toUInt8
/-- What Int reads. -/
def intOfB (l : List UInt8) : Option Int := match Lib.parseIntB 64 l with | .ok v => if Lib.itoa v = l then some v else none | _ => none

theorem parseUintM_append (M : Nat) : ∀ (l r : List UInt8) (acc a : Nat), Lib.parseUintM M acc l = .ok a → Lib.parseUintM M acc (l ++ r) = Lib.parseUintM M a r
  | [], r, acc, a, h => by rw [Lib.parseUintM] at h; injection h with h; subst h; rfl
  | c :: l, r, acc, a, h => by
    rw [List.cons_append, Lib.parseUintM]
    rw [Lib.parseUintM] at h
    split at h
    · rename_i h1
      rw [if_pos h1]
      split at h
      · cases h
      · rename_i h2
        rw [if_neg h2]
        split at h
        · cases h
        · rename_i h3
          rw [if_neg h3]
          exact parseUintM_append M l r _ a h
    · cases h
theorem dig_ofNat (d : Nat) (h : d < 10) : (UInt8.ofNat (48 + d)).toNat = 48 + d := by
  rw [UInt8.toNat_ofNat']; omega
theorem parse_dec (u : Nat) (h : u ≤ 18446744073709551615) : Lib.parseUintM 18446744073709551615 0 (Lib.decDigits u) = .ok u := by
  induction u using Nat.strongRecOn with
  | _ u ih =>
    rw [Lib.decDigits]
    split
    · rename_i h10
      rw [Lib.parseUintM, dig_ofNat u h10, if_pos (by omega), if_neg (by omega), if_neg (by omega), Lib.parseUintM]
      congr 1; omega
    · rename_i h10
      rw [parseUintM_append _ _ _ _ _ (ih (u / 10) (by omega) (by omega))]
      rw [Lib.parseUintM, dig_ofNat (u % 10) (by omega), if_pos (by omega), if_neg (by omega), if_neg (by omega), Lib.parseUintM]
      congr 1; omega
theorem dec_dig (u : Nat) : ∀ c ∈ Lib.decDigits u, 48 ≤ c.toNat ∧ c.toNat ≤ 57 := by
  induction u using Nat.strongRecOn with
  | _ u ih =>
    rw [Lib.decDigits]
    split
    · rename_i h10
      intro c hc
      obtain rfl := List.mem_singleton.1 hc
      rw [dig_ofNat u h10]; omega
    · rename_i h10
      intro c hc
      rcases List.mem_append.1 hc with hc | hc
      · exact ih _ (by omega) c hc
      · obtain rfl := List.mem_singleton.1 hc
        rw [dig_ofNat _ (by omega)]; omega
theorem dec_ne (u : Nat) : Lib.decDigits u ≠ [] := by
  rw [Lib.decDigits]; split <;> simp
theorem parse_itoa (n : Int) (h0 : -9223372036854775808 ≤ n) (h1 : n ≤ 9223372036854775807) : Lib.parseIntB 64 (Lib.itoa n) = .ok n := by
  by_cases hn : n < 0
  · rw [Lib.itoa, if_pos hn]
    have hp : Lib.parseUintB 64 (Lib.decDigits n.natAbs) = .ok n.natAbs := by
      rw [Lib.parseUintB, if_neg (dec_ne _), show 2 ^ 64 - 1 = 18446744073709551615 from rfl, parse_dec _ (by omega)]
    simp only [Lib.parseIntB]
    rw [if_pos (.inr (by decide)), hp]
    dsimp only
    rw [if_neg (by rintro ⟨h, -⟩; exact h (by decide)), if_neg (by rintro ⟨-, h⟩; omega), if_pos (by decide)]
    congr 1; omega
  · rw [Lib.itoa, if_neg hn]
    have hp : Lib.parseUintB 64 (Lib.decDigits n.toNat) = .ok n.toNat := by
      rw [Lib.parseUintB, if_neg (dec_ne _), show 2 ^ 64 - 1 = 18446744073709551615 from rfl, parse_dec _ (by omega)]
    have hd := dec_dig n.toNat
    cases hl : Lib.decDigits n.toNat with
    | nil => exact absurd hl (dec_ne _)
    | cons c r =>
      rw [hl] at hp hd
      have hc := hd c (List.mem_cons_self ..)
      simp only [Lib.parseIntB]
      rw [if_neg (by omega), hp]
      dsimp only
      rw [if_neg (by rintro ⟨-, h⟩; omega), if_neg (by rintro ⟨h, -⟩; omega), if_neg (by omega)]
      congr 1; omega
theorem intOfB_itoa (n : Int) (h0 : -9223372036854775808 ≤ n) (h1 : n ≤ 9223372036854775807) : intOfB (Lib.itoa n) = some n := by
  rw [intOfB, parse_itoa n h0 h1]
  exact if_pos rfl

end Go.Proofs.YtfcbcpfnaadpeaaGreatDoor
/- The wire encoding in plain words: numbers, texts, lists; what is written can be read in one way. Nothing of the program is imported. -/
namespace Go.Proofs.YtfcbcpfnaadpeaaGreatDoor
namespace Wr

abbrev B := List UInt8
def I64 (n : Int) : Prop := -9223372036854775808 ≤ n ∧ n ≤ 9223372036854775807
def int (n : Int) : B := Lib.itoa n ++ [59]
def num (n : Nat) : B := int (n : Int)
def text (s : B) : B := Lib.itoa (s.length : Int) ++ 58 :: (s ++ [44])
def list {α : Type} (f : α → B) (l : List α) : B := Lib.itoa (l.length : Int) ++ 91 :: ((l.map f).flatten ++ [93])
def nums (l : List Int) : B := list int l
theorem itoa_dig (n : Int) : ∀ c ∈ Lib.itoa n, c = 45 ∨ (48 ≤ c.toNat ∧ c.toNat ≤ 57) := by
  intro c hc
  rw [Lib.itoa] at hc
  split at hc
  · rcases List.mem_cons.1 hc with h | h
    · exact .inl h
    · exact .inr (dec_dig _ c h)
  · exact .inr (dec_dig _ c hc)
theorem itoa_no (n : Int) (e : UInt8) (h : e ≠ 45) (h2 : e.toNat < 48 ∨ 57 < e.toNat) : e ∉ Lib.itoa n := by
  intro hm
  rcases itoa_dig n e hm with h3 | h3
  · exact h h3
  · omega
theorem itoa_inj {a b : Int} (ha : I64 a) (hb : I64 b) (h : Lib.itoa a = Lib.itoa b) : a = b := by
  have h1 := intOfB_itoa a ha.1 ha.2
  rw [h, intOfB_itoa b hb.1 hb.2] at h1
  injection h1 with h1
  exact h1.symm
theorem split_at {e : UInt8} : ∀ {p q x y : B}, e ∉ p → e ∉ q → p ++ e :: x = q ++ e :: y → p = q ∧ x = y
  | [], [], x, y, _, _, h => by
    rw [List.nil_append, List.nil_append] at h
    injection h with _ h
    exact ⟨rfl, h⟩
  | [], c :: q, x, y, _, hq, h => by
    rw [List.nil_append, List.cons_append] at h
    injection h with h _
    subst h
    exact absurd (List.mem_cons_self ..) hq
  | c :: p, [], x, y, hp, _, h => by
    rw [List.nil_append, List.cons_append] at h
    injection h with h _
    subst h
    exact absurd (List.mem_cons_self ..) hp
  | c :: p, d :: q, x, y, hp, hq, h => by
    rw [List.cons_append, List.cons_append] at h
    injection h with h1 h2
    subst h1
    obtain ⟨rfl, h4⟩ := split_at (fun h => hp (List.mem_cons_of_mem _ h)) (fun h => hq (List.mem_cons_of_mem _ h)) h2
    exact ⟨rfl, h4⟩
theorem head_cut {a b : Int} {e : UInt8} {x y : B} (ha : I64 a) (hb : I64 b) (h : e ≠ 45) (h2 : e.toNat < 48 ∨ 57 < e.toNat) (he : Lib.itoa a ++ e :: x = Lib.itoa b ++ e :: y) : a = b ∧ x = y := by
  obtain ⟨h3, h4⟩ := split_at (itoa_no a e h h2) (itoa_no b e h h2) he
  exact ⟨itoa_inj ha hb h3, h4⟩
theorem int_cut {a b : Int} {x y : B} (ha : I64 a) (hb : I64 b) (he : int a ++ x = int b ++ y) : a = b ∧ x = y := by
  unfold int at he
  rw [List.append_assoc, List.append_assoc] at he
  exact head_cut ha hb (by decide) (by decide) he
def Ln {α : Type} (l : List α) : Prop := l.length ≤ 9223372036854775807
theorem Ln.i64 {α : Type} {l : List α} (h : Ln l) : I64 (l.length : Int) := by unfold Ln at h; exact ⟨by omega, by omega⟩
theorem num_cut {a b : Nat} {x y : B} (ha : a ≤ 9223372036854775807) (hb : b ≤ 9223372036854775807) (he : num a ++ x = num b ++ y) : a = b ∧ x = y := by
  obtain ⟨h1, h2⟩ := int_cut ⟨by omega, by omega⟩ ⟨by omega, by omega⟩ he
  exact ⟨by omega, h2⟩
theorem text_cut {s t x y : B} (hs : Ln s) (ht : Ln t) (he : text s ++ x = text t ++ y) : s = t ∧ x = y := by
  unfold text at he
  rw [List.append_assoc, List.append_assoc, List.cons_append, List.cons_append, List.append_assoc, List.append_assoc] at he
  obtain ⟨h1, h2⟩ := head_cut hs.i64 ht.i64 (by decide) (by decide) he
  obtain ⟨h3, h4⟩ := List.append_inj h2 (by omega)
  injection h4 with _ h4
  exact ⟨h3, h4⟩
theorem flat_cut {α : Type} {f : α → B} {D : α → Prop} (hf : ∀ a b x y, D a → D b → f a ++ x = f b ++ y → a = b ∧ x = y) : ∀ {l m : List α} {x y : B}, l.length = m.length → (∀ a ∈ l, D a) → (∀ a ∈ m, D a) → (l.map f).flatten ++ x = (m.map f).flatten ++ y → l = m ∧ x = y
  | [], [], x, y, _, _, _, h => ⟨rfl, by simpa using h⟩
  | [], _ :: _, _, _, h, _, _, _ => by simp at h
  | _ :: _, [], _, _, h, _, _, _ => by simp at h
  | a :: l, b :: m, x, y, hl, h1, h2, h => by
    rw [List.map_cons, List.map_cons, List.flatten_cons, List.flatten_cons, List.append_assoc, List.append_assoc] at h
    obtain ⟨rfl, h3⟩ := hf a b _ _ (h1 a (List.mem_cons_self ..)) (h2 b (List.mem_cons_self ..)) h
    obtain ⟨rfl, h4⟩ := flat_cut hf (by simpa using hl) (fun c hc => h1 c (List.mem_cons_of_mem _ hc)) (fun c hc => h2 c (List.mem_cons_of_mem _ hc)) h3
    exact ⟨rfl, h4⟩
theorem list_cut {α : Type} {f : α → B} {D : α → Prop} (hf : ∀ a b x y, D a → D b → f a ++ x = f b ++ y → a = b ∧ x = y) {l m : List α} {x y : B} (hl : Ln l) (hm : Ln m) (h1 : ∀ a ∈ l, D a) (h2 : ∀ a ∈ m, D a) (h : list f l ++ x = list f m ++ y) : l = m ∧ x = y := by
  unfold list at h
  rw [List.append_assoc, List.append_assoc, List.cons_append, List.cons_append, List.append_assoc, List.append_assoc] at h
  obtain ⟨h3, h4⟩ := head_cut hl.i64 hm.i64 (by decide) (by decide) h
  obtain ⟨rfl, h5⟩ := flat_cut hf (by omega) h1 h2 h4
  injection h5 with _ h5
  exact ⟨rfl, h5⟩
def Is64 (l : List Int) : Prop := Ln l ∧ ∀ a ∈ l, I64 a
theorem nums_cut {l m : List Int} {x y : B} (hl : Is64 l) (hm : Is64 m) (h : nums l ++ x = nums m ++ y) : l = m ∧ x = y :=
  list_cut (D := I64) (fun _ _ _ _ ha hb h => int_cut ha hb h) hl.1 hm.1 hl.2 hm.2 h
/-- A net. -/
def transB (t : List Int × List Int) : B := nums t.1 ++ nums t.2
def netB (p : Int) (l : List (List Int × List Int)) : B := int p ++ (num l.length ++ (l.map transB).flatten)
def T64 (t : List Int × List Int) : Prop := Is64 t.1 ∧ Is64 t.2
theorem trans_cut {t u : List Int × List Int} {x y : B} (ht : T64 t) (hu : T64 u) (h : transB t ++ x = transB u ++ y) : t = u ∧ x = y := by
  unfold transB at h
  rw [List.append_assoc, List.append_assoc] at h
  obtain ⟨h1, h2⟩ := nums_cut ht.1 hu.1 h
  obtain ⟨h3, h4⟩ := nums_cut ht.2 hu.2 h2
  exact ⟨Prod.ext h1 h3, h4⟩
theorem net_one {p q : Int} {l m : List (List Int × List Int)} (hp : I64 p) (hq : I64 q) (hl : Ln l) (hm : Ln m) (h1 : ∀ t ∈ l, T64 t) (h2 : ∀ t ∈ m, T64 t) (h : netB p l = netB q m) : p = q ∧ l = m := by
  unfold netB at h
  obtain ⟨h3, h4⟩ := int_cut hp hq h
  obtain ⟨h5, h6⟩ := num_cut hl hm h4
  have h7 : (l.map transB).flatten ++ [] = (m.map transB).flatten ++ [] := by rw [List.append_nil, List.append_nil]; exact h6
  obtain ⟨h8, -⟩ := flat_cut (D := T64) (fun _ _ _ _ ha hb h => trans_cut ha hb h) h5 h1 h2 h7
  exact ⟨h3, h8⟩
/-- Lengths. -/
theorem int_len {n : Int} (h : I64 n) : (int n).length ≤ 22 := by
  have := Lib.itoa_length_le n h.1 h.2
  unfold int; rw [List.length_append, List.length_singleton]; omega
theorem flat_len {α : Type} {f : α → B} {k : Nat} : ∀ {l : List α}, (∀ a ∈ l, (f a).length ≤ k) → ((l.map f).flatten).length ≤ l.length * k
  | [], _ => by simp
  | a :: l, h => by
    have h1 := h a (List.mem_cons_self ..)
    have h2 := flat_len (l := l) (fun b hb => h b (List.mem_cons_of_mem _ hb))
    rw [List.map_cons, List.flatten_cons, List.length_append, List.length_cons, Nat.add_mul]; omega
theorem list_len {α : Type} {f : α → B} {k : Nat} {l : List α} (hl : Ln l) (h : ∀ a ∈ l, (f a).length ≤ k) : (list f l).length ≤ 23 + l.length * k := by
  have h1 := Lib.itoa_length_le (l.length : Int) hl.i64.1 hl.i64.2
  have h2 := flat_len h
  unfold list
  rw [List.length_append, List.length_cons, List.length_append, List.length_singleton]; omega
theorem nums_len {l : List Int} (h : Is64 l) : (nums l).length ≤ 23 + l.length * 22 := list_len h.1 (fun a ha => int_len (h.2 a ha))
end Wr
end Go.Proofs.YtfcbcpfnaadpeaaGreatDoor
/- The encoding of a certificate, in plain words: two certificates with one encoding are one. Nothing of the program is imported. -/
namespace Go.Proofs.YtfcbcpfnaadpeaaGreatDoor
namespace Ve

def certW (c : Cert) : Wr.B := Wr.text (Wr.netB c.places c.trans) ++ (Wr.nums c.caps ++ (Wr.nums c.keeps ++ (Wr.int c.robots ++ (Wr.num c.sips.length ++ (c.sips.map Wr.nums).flatten))))
/-- A certificate of numbers of Go, not too long. -/
structure C64 (c : Cert) : Prop where
  pl : Wr.I64 c.places
  rb : Wr.I64 c.robots
  ca : Wr.Is64 c.caps
  ke : Wr.Is64 c.keeps
  tl : Wr.Ln c.trans
  tr : ∀ t ∈ c.trans, Wr.T64 t
  sn : Wr.Ln c.sips
  si : ∀ l ∈ c.sips, Wr.Is64 l
  nb : Wr.Ln (Wr.netB c.places c.trans)
theorem cert_one {c d : Cert} (hc : C64 c) (hd : C64 d) (h : certW c = certW d) : c = d := by
  unfold certW at h
  obtain ⟨h1, h⟩ := Wr.text_cut hc.nb hd.nb h
  obtain ⟨h2, h3⟩ := Wr.net_one hc.pl hd.pl hc.tl hd.tl hc.tr hd.tr h1
  obtain ⟨h4, h⟩ := Wr.nums_cut hc.ca hd.ca h
  obtain ⟨h5, h⟩ := Wr.nums_cut hc.ke hd.ke h
  obtain ⟨h6, h⟩ := Wr.int_cut hc.rb hd.rb h
  obtain ⟨h7, h⟩ := Wr.num_cut hc.sn hd.sn h
  have h8 : (c.sips.map Wr.nums).flatten ++ [] = (d.sips.map Wr.nums).flatten ++ [] := by rw [List.append_nil, List.append_nil]; exact h
  obtain ⟨h9, -⟩ := Wr.flat_cut (D := Wr.Is64) (fun _ _ _ _ ha hb h => Wr.nums_cut ha hb h) h7 hc.si hd.si h8
  cases c; cases d
  simp only [Cert.mk.injEq]
  exact ⟨h2, h3, h4, h5, h6, h9⟩
/-- Everything there is at most a hundred of. -/
structure Few (c : Cert) (n : Nat) : Prop where
  tl : c.trans.length ≤ n
  tr : ∀ t ∈ c.trans, t.1.length ≤ n ∧ t.2.length ≤ n
  ca : c.caps.length ≤ n
  ke : c.keeps.length ≤ n
  sn : c.sips.length ≤ n
  si : ∀ l ∈ c.sips, l.length ≤ n
theorem netB_len {p : Int} {l : List (List Int × List Int)} (hp : Wr.I64 p) (hl : l.length ≤ 1000000) (h : ∀ t ∈ l, Wr.T64 t) (hk : ∀ t ∈ l, t.1.length ≤ 1000 ∧ t.2.length ≤ 1000) : (Wr.netB p l).length ≤ 1000000000000 := by
  have h1 := Wr.int_len hp
  have h2 : (Wr.num l.length).length ≤ 22 := Wr.int_len ⟨by omega, by omega⟩
  have h3 : ((l.map Wr.transB).flatten).length ≤ l.length * 50000 := Wr.flat_len (fun t ht => by
    have a1 := Wr.nums_len (h t ht).1
    have a2 := Wr.nums_len (h t ht).2
    obtain ⟨k1, k2⟩ := hk t ht
    unfold Wr.transB
    rw [List.length_append]; omega)
  have h4 := Nat.mul_le_mul_right 50000 hl
  unfold Wr.netB
  rw [List.length_append, List.length_append]; omega
/-- The numbers of a certificate are numbers of Go. -/
structure Num (c : Cert) : Prop where
  pl : Wr.I64 c.places
  rb : Wr.I64 c.robots
  ca : ∀ x ∈ c.caps, Wr.I64 x
  ke : ∀ x ∈ c.keeps, Wr.I64 x
  tr : ∀ t ∈ c.trans, (∀ x ∈ t.1, Wr.I64 x) ∧ ∀ x ∈ t.2, Wr.I64 x
  si : ∀ l ∈ c.sips, ∀ x ∈ l, Wr.I64 x
theorem Few.c64 {c : Cert} {n : Nat} (h : Few c n) (hn : n ≤ 1000) (k : Num c) : C64 c where
  pl := k.pl
  rb := k.rb
  ca := ⟨by have := h.ca; unfold Wr.Ln; omega, k.ca⟩
  ke := ⟨by have := h.ke; unfold Wr.Ln; omega, k.ke⟩
  tl := by have := h.tl; unfold Wr.Ln; omega
  tr := fun t ht => by
    obtain ⟨h1, h2⟩ := h.tr t ht
    exact ⟨⟨by unfold Wr.Ln; omega, (k.tr t ht).1⟩, ⟨by unfold Wr.Ln; omega, (k.tr t ht).2⟩⟩
  sn := by have := h.sn; unfold Wr.Ln; omega
  si := fun l hl => ⟨by have := h.si l hl; unfold Wr.Ln; omega, k.si l hl⟩
  nb := by
    have := netB_len k.pl (l := c.trans) (by have := h.tl; omega) (fun t ht => by
      obtain ⟨h1, h2⟩ := h.tr t ht
      exact ⟨⟨by unfold Wr.Ln; omega, (k.tr t ht).1⟩, ⟨by unfold Wr.Ln; omega, (k.tr t ht).2⟩⟩) (fun t ht => by have := h.tr t ht; omega)
    unfold Wr.Ln; omega
end Ve
end Go.Proofs.YtfcbcpfnaadpeaaGreatDoor
/- (*strings.Builder).copyCheck, WriteByte, WriteString over this seat's translation: the shelf's own contracts of these three do not lie down here (their copyCheck's panic is refused by the loader); the walks follow the shelf's. -/
namespace Go.Proofs.YtfcbcpfnaadpeaaGreatDoor
open Go.RowKit

theorem Tryz.bldSize : (Tryz.prog.info? 136).map (·.size) = some 2 := by kernel_rfl
theorem Tryz.bldByte : (Tryz.prog.info? 5).map (fun i => (i.zero, i.size, i.bytes)) = some (some (.int .u8 0), 1, 1) := by kernel_rfl

set_option maxHeartbeats 1000000 in
set_option maxRecDepth 100000 in
theorem copyCheck_used (b : Nat) (w : World) (h0 : w.cell? ⟨b, 0, none⟩ = some (.pointer (some ⟨b, 0, none⟩))) :
    Calls Tryz.prog 162 #[.pointer (some ⟨b, 0, none⟩)] w fun e w' => e = .returned (.tuple #[]) ∧ w' = w := by
  obtain ⟨j, hj, _⟩ := Option.map_eq_some_iff.1 Tryz.bldSize
  go_enter Tryz.func162, Tryz.ntmps162
  go_wp2
  rw [Lib.run_neq_ptr_same w _ Tryz.underlying133 hj]
  go_wp2
  go_end0
  exact ⟨rfl, rfl⟩

set_option maxHeartbeats 1000000 in
set_option maxRecDepth 100000 in
theorem copyCheck_fresh (b : Nat) (w : World) (h0 : w.cell? ⟨b, 0, none⟩ = some (.pointer none)) (hsh : w.shape? b = some (136, 2)) (hfz : w.frozen? ⟨b, 0, none⟩ = false) :
    Calls Tryz.prog 162 #[.pointer (some ⟨b, 0, none⟩)] w fun e w' => e = .returned (.tuple #[]) ∧ w' = w.setCell ⟨b, 0, none⟩ (.pointer (some ⟨b, 0, none⟩)) := by
  obtain ⟨j, hj, hjs⟩ := Option.map_eq_some_iff.1 Tryz.bldSize
  go_enter Tryz.func162, Tryz.ntmps162
  go_wp2
  rw [Lib.run_to_unsafe w ⟨b, 0, none⟩ Tryz.underlying133 Tryz.underlying251 hj (by rw [hjs]; decide) hsh (Nat.zero_lt_succ 1)]
  simp only [Result.andThen]
  rw [Oper.upon_value]
  go_wp2
  rw [run_callFunc_extern Tryz.func228 (by kernel_rfl) (by kernel_rfl) (by kernel_rfl) (e := Extern.AbiNoEscape.same) (by kernel_rfl)]
  rw [Lib.run_noEscape]
  simp only [Result.andThen]
  rw [Oper.upon_value]
  go_wp2
  rw [Lib.run_from_unsafe w ⟨b, 0, none⟩ Tryz.underlying251 Tryz.underlying133 hj hsh (by kernel_rfl)]
  simp only [Result.andThen]
  rw [Oper.upon_value]
  go_wp2
  go_end0
  exact ⟨rfl, rfl⟩

/-- Behind copyCheck the builder holds its own address; every block that is not the builder's and no row of bytes stands as it stood. -/
theorem copyCheck_any (B b : Nat) (l : List Value) (w : World) (h : Lib.IsBuilderF 136 5 B b l w) :
    Calls Tryz.prog 162 #[.pointer (some ⟨b, 0, none⟩)] w fun e w' => e = .returned (.tuple #[]) ∧ (Lib.BuilderAtF 136 5 B b (.pointer (some ⟨b, 0, none⟩)) l w' ∧ Below B w w' ∧ Lib.OthersKept 5 (some b) w w') := by
  rcases h with h | h
  · refine (copyCheck_fresh b w h.cell0 h.shape h.frozen0).mono ?_
    rintro e w' ⟨rfl, rfl⟩
    exact ⟨rfl, h.used _, (Below.refl B w).setCell (p := ⟨b, 0, none⟩) h.1 _, (Lib.OthersKept.refl _ _ w).setCell ⟨b, 0, none⟩ rfl _⟩
  · refine (copyCheck_used b w h.cell0).mono ?_
    rintro e w' ⟨rfl, rfl⟩
    exact ⟨rfl, h, Below.refl B _, Lib.OthersKept.refl _ _ _⟩

set_option maxHeartbeats 2000000 in
set_option maxRecDepth 100000 in
theorem WriteString_any (B b : Nat) (l : List Value) (s : ByteArray) (w : World) (h : Lib.IsBuilderF 136 5 B b l w) (hlen : l.length + s.size ≤ 140737488355328) (hBw : B ≤ w.heap.size) :
    Calls Tryz.prog 90 #[.pointer (some ⟨b, 0, none⟩), .string s] w fun e w' => e = .returned (.tuple #[.int .i64 s.size, .nilIface]) ∧ (Lib.IsBuilderF 136 5 B b (l ++ Lib.strCells s) w' ∧ Below B w w' ∧ Lib.OthersKept 5 (some b) w w') := by
  obtain ⟨i0, hi, hz0, hz1, hz2⟩ := info_parts Tryz.bldByte
  go_enter Tryz.func90, Tryz.ntmps90
  go_wp2_with (go_at_call 162; refine (copyCheck_any B b l _ h).mono ?_)
  rintro e w1 ⟨rfl, h1, hb1, hk1⟩
  obtain ⟨hB, v, hbk, hown, hne⟩ := h1
  have c0 : w1.cell? ⟨b, 0, none⟩ = some (.pointer (some ⟨b, 0, none⟩)) := by rw [Lib.cell_of_heap hbk]; rfl
  have c1 : w1.cell? ⟨b, 1, none⟩ = some v := by rw [Lib.cell_of_heap hbk]; rfl
  go_wp2_with (at_builtin; refine Lib.wpList_append_own_stringF _ rfl _ _ 134 9 rfl B 5 i0 Tryz.underlying134 Tryz.underlying9 hi hz0 hz1 hz2 _ _ _ rfl hown s rfl ?c3 ?c4 ?c5 ?_)
  case c3 => unfold maxLen; omega
  case c4 => omega
  case c5 => have := hb1.size; omega
  intro v' w2 hown' hgrow _
  have hlt : b < w1.heap.size := by
    rcases Nat.lt_or_ge b w1.heap.size with h' | h'
    · exact h'
    · simp [Array.getElem?_eq_none h'] at hbk
  have hb2 : w2.heap[b]? = some (.cells #[.pointer (some ⟨b, 0, none⟩), v] 136 (0, 0)) := by
    rw [hgrow.block b hlt (fun e => hne e.symm)]
    exact hbk
  have d0 : w2.cell? ⟨b, 0, none⟩ = some (.pointer (some ⟨b, 0, none⟩)) := by rw [Lib.cell_of_heap hb2]; rfl
  have d1 : w2.cell? ⟨b, 1, none⟩ = some v := by rw [Lib.cell_of_heap hb2]; rfl
  have f1 : w2.frozen? ⟨b, 1, none⟩ = false := Lib.frozen_of_heap hb2 1
  obtain ⟨ao, n', cap, rfl⟩ : ∃ ao n' cap, v' = .slice ao n' cap := by
    rcases hown'.2 with ⟨hv, _⟩ | ⟨g, cap, cur, fz, hv, _⟩
    · exact ⟨_, _, _, hv⟩
    · exact ⟨_, _, _, hv⟩
  go_wp2
  go_ret2
  refine ⟨rfl, .inr ?_, ?_, (hk1.grown hgrow (Lib.ownsRowF_kind hown)).setCell ⟨b, 1, none⟩ rfl _⟩
  · exact Lib.BuilderAtF.put (T := 136) (e := 5) hB hb2 (bs' := l ++ Lib.strCells s) (by simpa [Lib.strCells_length] using hown') (by decide)
  · exact (hb1.grown hgrow (by have := hb1.size; omega) (fun k hk => (hown.lt k hk).1)).setCell (p := ⟨b, 1, none⟩) hB _
end Go.Proofs.YtfcbcpfnaadpeaaGreatDoor
/- Strings and builders for the walks of package wire. -/
namespace Go.Proofs.YtfcbcpfnaadpeaaGreatDoor
set_option linter.unusedSimpArgs false
set_option linter.unusedVariables false
open Go.RowKit

theorem Tryz.gPow : Tryz.prog.globalNamed "internal/strconv.uint64pow10" = some 4 := by kernel_rfl
/-- What strconv asks of the world: its table of powers. -/
def PowT (w : World) : Prop := Lib.TabIs Tryz.prog w "internal/strconv.uint64pow10" .u64 Lib.pow10Tab
theorem PowT.below {w w' : World} (h : PowT w) (hb : Below w.heap.size w w') : PowT w' := by
  have h0 : w.cell? ⟨4, 0, none⟩ = some (.int .u64 1) := by
    rw [World.var?_cell Tryz.gPow h 0]; rfl
  exact var?_below hb Tryz.gPow (cell_block_lt h0) h
/-- The bytes of a string. -/
def bs (s : ByteArray) : List UInt8 := s.data.toList
theorem bs_len (s : ByteArray) : (bs s).length = s.size := by simp [bs]
theorem bs_append (a b : ByteArray) : bs (a ++ b) = bs a ++ bs b := by simp [bs]
theorem bs_lit0 (l : List UInt8) : bs ⟨l.toArray⟩ = l := by simp [bs]
/-- What answers a string of known bytes. -/
def SP (l : List UInt8) (w : World) (e : Ending) (w' : World) : Prop := ∃ D : ByteArray, bs D = l ∧ D.size = l.length ∧ e = .returned (.string D) ∧ Below w.heap.size w w'
theorem below_grow (w : World) (os : Array Obj) : Below w.heap.size w (Go.Sort.grow w os) :=
  ⟨rfl, rfl, rfl, by simp [Go.Sort.grow], fun k hk => by simp [Go.Sort.grow, Array.getElem?_append_left hk]⟩
theorem Itoa_any (n : Int) (h : Wr.I64 n) (w : World) (hT : PowT w) : Calls Tryz.prog 163 #[.int .i64 n] w (SP (Lib.itoa n) w) := by
  refine (Tryz.strconv_Itoa n h.1 h.2 w hT).mono ?_
  rintro e w' ⟨rfl, k, os, rfl⟩
  exact ⟨_, bs_lit0 _, by rw [← bs_len, bs_lit0], rfl, (below_drewN _ _ _).trans (below_grow (w.drewN k) os)⟩
theorem builder_below {T e : TypeId} {B b : Nat} {p : Value} {l : List Value} {w w' : World} (h : Lib.BuilderAtF T e B b p l w) (hb : Below w.heap.size w w') : Lib.BuilderAtF T e B b p l w' := by
  obtain ⟨hB, v, hv, hown, hne⟩ := h
  exact ⟨hB, v, keep_heap hv hb, hown.kept (row := none) ⟨hb.os, hb.tape, hb.output, hb.size, fun k hk _ => hb.block k hk⟩ (Classical.em _), hne⟩
/-- A call's own builder: block B, laid first by the call; it holds the bytes l. -/
def Bw (w0 : World) (l : List UInt8) (w : World) : Prop := Lib.IsBuilderF 136 5 w0.heap.size w0.heap.size (Lib.byteCells l) w ∧ Below w0.heap.size w0 w
theorem Bw.start (w : World) : Bw w [] (w.alloc (.cells #[.pointer none, .slice none 0 0] 136)) :=
  ⟨Lib.IsBuilderF.of (Lib.fresh_isBuilder _ _ w), (Below.refl _ w).alloc (Nat.le_refl _) _⟩
theorem Bw.below {w0 : World} {l : List UInt8} {w : World} (h : Bw w0 l w) : Below w0.heap.size w0 w := h.2
theorem Bw.writeString {w0 : World} {l : List UInt8} {w : World} (h : Bw w0 l w) (s : ByteArray) (hl : l.length + s.size ≤ 140737488355328) :
    Calls Tryz.prog 90 #[.pointer (some ⟨w0.heap.size, 0, none⟩), .string s] w fun e w' => e = .returned (.tuple #[.int .i64 s.size, .nilIface]) ∧ Bw w0 (l ++ bs s) w' := by
  refine (WriteString_any w0.heap.size w0.heap.size (Lib.byteCells l) s w h.1 (by simpa [Lib.byteCells] using hl) h.2.size).mono ?_
  rintro e w' ⟨rfl, h1, h2, -⟩
  refine ⟨rfl, ?_, h.2.trans h2⟩
  have : Lib.byteCells (l ++ bs s) = Lib.byteCells l ++ Lib.strCells s := by rw [Lib.strCells_eq]; simp [Lib.byteCells, bs]
  rw [this]; exact h1
theorem Bw.string {w0 : World} {l : List UInt8} {w : World} (h : Bw w0 l w) :
    Calls Tryz.prog 96 #[.pointer (some ⟨w0.heap.size, 0, none⟩)] w fun e w' => ∃ D : ByteArray, bs D = l ∧ D.size = l.length ∧ e = .returned (.string D) ∧ Bw w0 l w' := by
  refine (Tryz.Builder_String_any_k w0.heap.size w0.heap.size l w h.1 h.2.size).mono ?_
  rintro e w' ⟨rfl, h1, h2, -⟩
  exact ⟨_, bs_lit0 _, by rw [← bs_len, bs_lit0], rfl, h1, h.2.trans h2⟩
/-- What a builder's block holds is not seen by a call that makes memory. -/
theorem Bw.grow {w0 : World} {l : List UInt8} {w w' : World} (h : Bw w0 l w) (hb : Below w.heap.size w w') : Bw w0 l w' := by
  refine ⟨?_, h.2.trans (hb.mono h.2.size)⟩
  rcases h.1 with h1 | h1
  · exact .inl (builder_below h1 hb)
  · exact .inr (builder_below h1 hb)
end Go.Proofs.YtfcbcpfnaadpeaaGreatDoor
/- Walks of package wire: Int, Num, Text, list, Nums. -/
namespace Go.Proofs.YtfcbcpfnaadpeaaGreatDoor
set_option linter.unusedSimpArgs false
set_option linter.unusedVariables false
open Go.RowKit

set_option maxRecDepth 100000 in
set_option maxHeartbeats 4000000 in
theorem wInt_any (n : Int) (h : Wr.I64 n) (w : World) (hT : PowT w) : Calls Tryz.prog 94 #[.int .i64 n] w (SP (Wr.int n) w) := by
  have HL := Lib.itoa_length_le n h.1 h.2
  have HC := Lib.hid (fun W (hb : Below w.heap.size w W) => Itoa_any n h W (hT.below hb))
  obtain ⟨l, hl⟩ : ∃ l, l = Lib.itoa n := ⟨_, rfl⟩
  have HG : Hid (Wr.int n = l ++ [59]) := Lib.hid (by rw [hl]; rfl)
  rw [← hl] at HC HL
  clear hT h hl
  go_enter Tryz.func94, Tryz.ntmps94
  go_wp2_with fail
  go_at_call 163; refine (HC.out w (Below.refl _ _)).mono ?_; rintro e w1 ⟨D, hD, hs, rfl, b1⟩
  have HD := Lib.hid hD
  have HB := Lib.hid b1
  have hs2 : D.size ≤ 21 := by omega
  have HS := Lib.hid hs
  clear hD b1 hs HL
  go_wp2_with fail
  go_ret
  exact ⟨D ++ ⟨#[59]⟩, by rw [bs_append, HD.out, HG.out]; rfl, by rw [ByteArray.size_append, HS.out, HG.out, List.length_append]; rfl, rfl, HB.out⟩
set_option maxRecDepth 100000 in
set_option maxHeartbeats 4000000 in
theorem wNum_any (n : Nat) (h : n ≤ 9223372036854775807) (w : World) (hT : PowT w) : Calls Tryz.prog 95 #[.int .i64 n] w (SP (Wr.num n) w) := by
  have HC := Lib.hid (fun W (hb : Below w.heap.size w W) => wInt_any (n : Int) ⟨by omega, by omega⟩ W (hT.below hb))
  have h0 : ¬ (n : Int) < 0 := by omega
  have h1 : decide ((n : Int) < 0) = false := decide_eq_false h0
  clear hT h
  go_enter Tryz.func95, Tryz.ntmps95
  go_wp2_with fail
  go_at_call 94; refine (HC.out w (Below.refl _ _)).mono ?_; rintro e w1 ⟨D, hD, hs, rfl, b1⟩
  have HD := Lib.hid hD
  have HB := Lib.hid b1
  have HS := Lib.hid hs
  clear hD b1 hs
  go_wp2_with fail
  go_ret
  exact ⟨D, HD.out, HS.out, rfl, HB.out⟩
set_option maxRecDepth 100000 in
set_option maxHeartbeats 4000000 in
theorem wText_any (s : ByteArray) (h : s.size ≤ 70000000000000) (w : World) (hT : PowT w) : Calls Tryz.prog 91 #[.string s] w (SP (Wr.text (bs s)) w) := by
  have HL := Lib.itoa_length_le (s.size : Int) (by omega) (by omega)
  have HC := Lib.hid (fun W (hb : Below w.heap.size w W) => Itoa_any (s.size : Int) ⟨by omega, by omega⟩ W (hT.below hb))
  obtain ⟨l, hl⟩ : ∃ l, l = Lib.itoa (s.size : Int) := ⟨_, rfl⟩
  have HG : Hid (Wr.text (bs s) = ((l ++ [58]) ++ bs s) ++ [44]) := Lib.hid (by rw [hl]; unfold Wr.text; rw [bs_len]; simp)
  rw [← hl] at HC HL
  clear hT hl
  go_enter Tryz.func91, Tryz.ntmps91
  go_wp2_with fail
  go_at_call 163; refine (HC.out w (Below.refl _ _)).mono ?_; rintro e w1 ⟨D, hD, hs, rfl, b1⟩
  have HD := Lib.hid hD
  have HB := Lib.hid b1
  have hs2 : D.size ≤ 21 := by omega
  have HS := Lib.hid hs
  clear hD b1 hs HL
  have a1 : (D ++ (⟨#[58]⟩ : ByteArray)).size ≤ 22 := by rw [ByteArray.size_append]; show D.size + 1 ≤ 22; omega
  have a2 : (D ++ (⟨#[58]⟩ : ByteArray) ++ s).size ≤ 70000000000022 := by rw [ByteArray.size_append]; omega
  go_wp2_with fail
  go_ret
  refine ⟨D ++ ⟨#[58]⟩ ++ s ++ ⟨#[44]⟩, by rw [bs_append, bs_append, bs_append, HD.out, HG.out]; rfl, ?_, rfl, HB.out⟩
  rw [ByteArray.size_append, ByteArray.size_append, ByteArray.size_append, HS.out, HG.out, List.length_append, List.length_append, List.length_append, bs_len]; rfl
theorem flat_take {α : Type} {f : α → Wr.B} {l : List α} {k : Nat} (h : k < l.length) : ((l.take (k + 1)).map f).flatten = ((l.take k).map f).flatten ++ f l[k] := by
  rw [List.take_succ_eq_append_getElem h, List.map_append, List.flatten_append]; simp
set_option maxRecDepth 100000 in
set_option maxHeartbeats 8000000 in
theorem wList_any (v : Value) (l : List Int) (hl : l.length ≤ 1000000000) (h64 : ∀ a ∈ l, Wr.I64 a) (w : World) (h : Is w v l) (hT : PowT w) :
    Calls Tryz.prog 164 #[v, .func (.func 94) #[] #[]] w (SP (Wr.nums l) w) := by
  obtain ⟨a, ca, rfl, hm⟩ := h.form
  obtain ⟨n, hn⟩ : ∃ n, n = l.length := ⟨_, rfl⟩
  have HV := Lib.hid h
  rw [← hn] at hm hl HV ⊢
  have HT := Lib.hid hT
  have H64 := Lib.hid h64
  have HI0 := Lib.itoa_length_le (n : Int) (by omega) (by omega)
  have HC := Lib.hid (fun W (hb : Below w.heap.size w W) => Itoa_any (n : Int) ⟨by omega, by omega⟩ W (hT.below hb))
  have HCI := Lib.hid (fun x W (hx : Wr.I64 x) (hb : Below w.heap.size w W) => wInt_any x hx W (hT.below hb))
  obtain ⟨i0, hi0⟩ : ∃ l, l = Lib.itoa (n : Int) := ⟨_, rfl⟩
  rw [← hi0] at HC HI0
  obtain ⟨pre, hpre⟩ : ∃ p, p = i0 ++ [91] := ⟨_, rfl⟩
  have HG : Hid (Wr.nums l = pre ++ (l.map Wr.int).flatten ++ [93]) := Lib.hid (by unfold Wr.nums Wr.list; rw [hpre, hi0, ← hn]; simp)
  have hpl : pre.length ≤ 22 := by rw [hpre, List.length_append]; show i0.length + 1 ≤ 22; omega
  have HPR := Lib.hid hpre
  have HN := Lib.hid hn
  have H0 := Lib.hid (Bw.start w)
  clear h hT h64 hn hi0 hpre
  go_enter Tryz.func164, Tryz.ntmps164
  go_upto_region 2 with fail
  obtain ⟨W, hW⟩ : ∃ W, W = w.alloc (.cells #[.pointer none, .slice none 0 0] 136) := ⟨_, rfl⟩
  rw [← hW] at H0 ⊢
  clear hW
  go_wp2_with fail
  go_at_call 163; refine (HC.out W H0.out.below).mono ?_; rintro e w1 ⟨D, hD, hs, rfl, b1⟩
  have HD := Lib.hid hD
  have H1 := Lib.hid (H0.out.grow b1)
  have hs2 : D.size ≤ 21 := by omega
  clear hD b1 hs
  have HW := Lib.hid (H1.out.writeString (D ++ ⟨#[91]⟩) (by rw [ByteArray.size_append]; show 0 + (D.size + 1) ≤ 140737488355328; omega))
  rw [List.nil_append, bs_append, HD.out, show bs ⟨#[91]⟩ = [91] from rfl, ← HPR.out] at HW
  go_wp2_with fail
  go_at_call 90; refine HW.out.mono ?_; rintro e w2 ⟨rfl, h2⟩
  have H2 : Hid (Bw w (pre ++ ((l.take 0).map Wr.int).flatten) w2) := Lib.hid (by simpa using h2)
  clear h2 HW
  go_wp2_with fail
  go_loopw [15] (fun iv wr => ∃ k : Nat, k ≤ n ∧ iv = .int .i64 k ∧ Hid (Bw w (pre ++ ((l.take k).map Wr.int).flatten) wr)) (fun iv _ => n - (intOf iv).toNat)
  case atStart => exact ⟨0, by omega, rfl, H2⟩
  case round =>
    obtain ⟨k, hk, rfl, HB⟩ := hrel
    by_cases hkn : k < n
    · have hkl : k < l.length := by rw [← HN.out]; exact hkn
      obtain ⟨b, o, e1, c1⟩ := (HV.out.keep HB.out.below).cell k hkl
      subst e1
      have hx64 := H64.out _ (List.getElem_mem hkl)
      have HST := Lib.hid (flat_take (f := Wr.int) hkl)
      have hfl := Wr.flat_len (f := Wr.int) (k := 22) (l := l.take k) (fun a ha => Wr.int_len (H64.out a (List.mem_of_mem_take ha)))
      rw [List.length_take] at hfl
      obtain ⟨x, hx⟩ : ∃ x, l[k] = x := ⟨_, rfl⟩
      rw [hx] at c1 hx64 HST
      have hil := Wr.int_len hx64
      have HCX := Lib.hid (HCI.out x wr hx64 HB.out.below)
      have k0 : (0 : Int) ≤ (k : Int) := by omega
      have k1 : (k : Int) < (n : Int) := by omega
      have hpf : (pre ++ ((l.take k).map Wr.int).flatten).length ≤ 22 + 22 * 1000000000 := by
        rw [List.length_append]
        have := Nat.min_le_left k l.length
        have := Nat.mul_le_mul_right 22 (show min k l.length ≤ 1000000000 by omega)
        omega
      obtain ⟨pf, hpf2⟩ : ∃ p, p = pre ++ ((l.take k).map Wr.int).flatten := ⟨_, rfl⟩
      have HPF := Lib.hid hpf2
      rw [← hpf2] at HB hpf
      clear hx hx64 hpf2 hfl
      go_wp2_with fail
      go_at_call 94; refine HCX.out.mono ?_; rintro e w3 ⟨D2, hD2, hs3, rfl, b3⟩
      have HD2 := Lib.hid hD2
      have H3 := Lib.hid (HB.out.grow b3)
      have hs4 : D2.size ≤ 22 := by omega
      have HW := Lib.hid (H3.out.writeString D2 (by omega))
      clear hD2 b3 hs3
      go_wp2_with fail
      go_at_call 90; refine HW.out.mono ?_; rintro e w4 ⟨rfl, h4⟩
      have H4 : Hid (Bw w (pre ++ ((l.take (k + 1)).map Wr.int).flatten) w4) := Lib.hid (by
        rw [HD2.out, HPF.out, List.append_assoc, ← HST.out] at h4
        exact h4)
      clear h4 HW
      go_wp2_with fail
      go_roundw
      case rel => exact ⟨k + 1, by omega, by go_num, H4⟩
      case measure => simp [intOf]; omega
    · obtain rfl : n = k := by omega
      have HE : Hid (pre ++ ((l.take n).map Wr.int).flatten = pre ++ (l.map Wr.int).flatten) := Lib.hid (by rw [List.take_of_length_le (by rw [← HN.out]; exact Nat.le_refl _)])
      have hfl := Wr.flat_len (f := Wr.int) (k := 22) (l := l) (fun a ha => Wr.int_len (H64.out a ha))
      have hpf : (pre ++ (l.map Wr.int).flatten).length ≤ 22 + 22 * 1000000000 := by
        rw [List.length_append]
        have := HN.out
        have := Nat.mul_le_mul_right 22 (show l.length ≤ 1000000000 by omega)
        omega
      rw [HE.out] at HB
      obtain ⟨pf, hpf2⟩ : ∃ p, p = pre ++ (l.map Wr.int).flatten := ⟨_, rfl⟩
      rw [← hpf2] at HB hpf HG
      clear hpf2 hfl HE
      go_wp2_with fail
      go_at_call 96; refine HB.out.string.mono ?_; rintro e w4 ⟨D3, hD3, hs5, rfl, h5⟩
      have HD3 := Lib.hid hD3
      have HS3 := Lib.hid hs5
      have H5 := Lib.hid h5.below
      have hs6 : D3.size ≤ 22 + 22 * 1000000000 := by omega
      clear hD3 hs5 h5
      go_wp2_with fail
      go_ret
      exact ⟨D3 ++ ⟨#[93]⟩, by rw [bs_append, HD3.out, HG.out]; rfl, by rw [ByteArray.size_append, HS3.out, HG.out, List.length_append]; rfl, rfl, H5.out⟩
set_option maxRecDepth 100000 in
set_option maxHeartbeats 4000000 in
theorem wNums_any (v : Value) (l : List Int) (hl : l.length ≤ 1000000000) (h64 : ∀ a ∈ l, Wr.I64 a) (w : World) (h : Is w v l) (hT : PowT w) :
    Calls Tryz.prog 93 #[v] w (SP (Wr.nums l) w) := by
  have HC := Lib.hid (wList_any v l hl h64 w h hT)
  obtain ⟨a, ca, rfl, hm⟩ := h.form
  clear h hT h64
  go_enter Tryz.func93, Tryz.ntmps93
  go_wp2_with fail
  go_at_call 164; refine HC.out.mono ?_; rintro e w1 ⟨D, hD, hs, rfl, b1⟩
  have HD := Lib.hid hD
  have HB := Lib.hid b1
  have HS := Lib.hid hs
  clear hD b1 hs
  go_wp2_with fail
  go_ret
  exact ⟨D, HD.out, HS.out, rfl, HB.out⟩
end Go.Proofs.YtfcbcpfnaadpeaaGreatDoor
