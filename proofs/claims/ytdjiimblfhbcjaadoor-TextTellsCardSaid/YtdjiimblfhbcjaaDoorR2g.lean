/- Walks of taquinref02: closing, In, fits. -/
import Derived.Test.YtdjiimblfhbcjaaDoorR2f
import Derived.Test.YtdjiimblfhbcjaaDoorPatT
namespace Go.Proofs.YtdjiimblfhbcjaaDoor
set_option linter.unusedSimpArgs false
open Go.RowKit

set_option maxHeartbeats 1000000 in
theorem rIn_any (s : ByteArray) (c : UInt8) (w : World) (hs : s.size ≤ 140737488355328) :
    Calls Tryd.prog 89 #[.string s, .int .u8 c.toNat] w fun e w' => e = .returned (.bool (Pat.inSet (bs s) c)) ∧ w = w' := by

  obtain ⟨S, hS⟩ : ∃ S, S = Pat.inSet (bs s) c := ⟨_, rfl⟩
  rw [← hS]
  have HS := Lib.hid hS
  clear hS
  go_enter Tryd.func89, Tryd.ntmps89
  go_wp2
  go_loop [5] (fun i => ∃ k : Nat, k ≤ s.size ∧ S = Pat.inSet ((bs s).drop k) c ∧ i = .int .i64 k) (fun i => s.size - (intOf i).toNat)
  case atStart => exact ⟨0, by omega, by rw [HS.out]; rfl, rfl⟩
  case round =>
    obtain ⟨k, hk, hS, rfl⟩ := hrel
    have HK := Lib.hid hS
    clear hS
    by_cases hlt : k < s.size
    · by_cases h2 : k + 2 < s.size
      · by_cases h3 : s[k + 1] = 45
        · have h3' : ((s[k + 1].toNat : Int) == 45) = true := by rw [h3]; rfl
          have hd : Pat.inSet ((bs s).drop k) c = ((decide (s[k] ≤ c) && decide (c ≤ s[k + 2])) || Pat.inSet ((bs s).drop (k + 3)) c) := by
            rw [bs_drop s k hlt, bs_drop s (k + 1) (by omega), bs_drop s (k + 2) h2, h3]; exact Pat.inSet_range _ _ _ _
          have HD := Lib.hid hd
          clear hd
          clear h3
          by_cases h4 : s[k] ≤ c
          · have h5 := u8_le h4
            by_cases h6 : c ≤ s[k + 2]
            · have h7 := u8_le h6
              have H4 := Lib.hid h4
              have H6 := Lib.hid h6
              clear h4 h6
              go_wp2
              go_ret
              exact ⟨ret_bool (by rw [HK.out, HD.out]; simp [H4.out, H6.out]), rfl⟩
            · have h7 := u8_lt h6
              have H6 := Lib.hid h6
              clear h4 h6
              go_wp2
              go_round
              case rel => exact ⟨k + 3, by omega, by rw [HK.out, HD.out]; simp [H6.out], by go_num⟩
              case measure => simp [intOf]; omega
          · have h5 := u8_lt h4
            have H4 := Lib.hid h4
            clear h4
            go_wp2
            go_round
            case rel => exact ⟨k + 3, by omega, by rw [HK.out, HD.out]; simp [H4.out], by go_num⟩
            case measure => simp [intOf]; omega
        · have hnd : ∀ b r, (bs s).drop (k + 1) ≠ 45 :: b :: r := by
            intro b r e
            rw [bs_drop s (k + 1) (by omega)] at e; exact h3 (List.cons.inj e).1
          have hd : Pat.inSet ((bs s).drop k) c = (s[k] == c || Pat.inSet ((bs s).drop (k + 1)) c) := by
            rw [bs_drop s k hlt]; exact Pat.inSet_byte _ _ _ hnd
          have HD := Lib.hid hd
          clear hd hnd
          have h3' : ((s[k + 1].toNat : Int) == 45) = false := u8_ne (b := 45) h3
          clear h3
          by_cases h4 : s[k] = c
          · have h5 := u8_is h4
            have H4 := Lib.hid h4
            clear h4
            go_wp2
            go_ret
            exact ⟨ret_bool (by rw [HK.out, HD.out]; simp [H4.out]), rfl⟩
          · have h5 := u8_ne h4
            have H4 := Lib.hid h4
            clear h4
            go_wp2
            go_round
            case rel => exact ⟨k + 1, by omega, by rw [HK.out, HD.out]; simp [H4.out], by go_num⟩
            case measure => simp [intOf]; omega
      · have hx : k < s.size := hlt
        have hnd : ∀ b r, (bs s).drop (k + 1) ≠ 45 :: b :: r := by
          intro b r e
          have := congrArg List.length e; simp [bs_len] at this; omega
        have hd : Pat.inSet ((bs s).drop k) c = (s[k] == c || Pat.inSet ((bs s).drop (k + 1)) c) := by
          rw [bs_drop s k hlt]; exact Pat.inSet_byte _ _ _ hnd
        have HD := Lib.hid hd
        clear hd hnd
        by_cases h4 : s[k] = c
        · have h5 := u8_is h4
          have H4 := Lib.hid h4
          clear h4
          go_wp2
          go_ret
          exact ⟨ret_bool (by rw [HK.out, HD.out]; simp [H4.out]), rfl⟩
        · have h5 := u8_ne h4
          have H4 := Lib.hid h4
          clear h4
          go_wp2
          go_round
          case rel => exact ⟨k + 1, by omega, by rw [HK.out, HD.out]; simp [H4.out], by go_num⟩
          case measure => simp [intOf]; omega
    · obtain rfl : k = s.size := by omega
      go_wp2
      go_ret
      exact ⟨ret_bool (by rw [HK.out, show (bs s).drop s.size = [] by rw [← bs_len]; exact List.drop_length]; rfl), rfl⟩


def cl (l : List UInt8) (i : Nat) : Int := match l.findIdx? (· == 93) with | some n => ((i + n : Nat) : Int) | none => -1
theorem cl_hit (r : List UInt8) (i : Nat) : cl (93 :: r) i = i := by unfold cl; rw [List.findIdx?_cons]; rfl
theorem cl_miss (c : UInt8) (r : List UInt8) (i : Nat) (h : c ≠ 93) : cl (c :: r) i = cl r (i + 1) := by
  unfold cl; rw [List.findIdx?_cons, if_neg (by simpa using h)]
  cases r.findIdx? (· == 93) with
  | none => rfl
  | some n => simp; omega
theorem cl_nil (i : Nat) : cl [] i = -1 := rfl
theorem closingAt_cl (p : List UInt8) (first : Nat) : Pat.closingAt p first = cl (p.drop (first + 1)) (first + 1) := by
  unfold Pat.closingAt Pat.closing cl
  rw [List.drop_drop]
  cases (p.drop (first + 1)).findIdx? (· == 93) with
  | none => rfl
  | some n => simp; omega
set_option maxHeartbeats 1000000 in
theorem rclosing_any (p : ByteArray) (first : Nat) (w : World) (hp : p.size ≤ 140737488355328) (hf : first ≤ p.size + 2) :
    Calls Tryd.prog 88 #[.string p, .int .i64 first] w fun e w' => e = .returned (.int .i64 (Pat.closingAt (bs p) first)) ∧ w = w' := by
  obtain ⟨R, hR⟩ : ∃ R, R = Pat.closingAt (bs p) first := ⟨_, rfl⟩
  rw [← hR]
  rw [closingAt_cl] at hR
  have HR := Lib.hid hR
  clear hR
  go_enter Tryd.func88, Tryd.ntmps88
  go_wp2
  go_loop [5] (fun i => ∃ k : Nat, first + 1 ≤ k ∧ k ≤ p.size + 3 ∧ Hid (R = cl ((bs p).drop k) k) ∧ i = .int .i64 k) (fun i => p.size - (intOf i).toNat)
  case atStart => exact ⟨first + 1, by omega, by omega, HR, by go_num⟩
  case round =>
    obtain ⟨k, hk0, hk, HK, rfl⟩ := hrel
    clear HR
    by_cases hlt : k < p.size
    · have kI0 : (0 : Int) ≤ (k : Int) := by omega
      have kI1 : (k : Int) < (p.size : Int) := by omega
      have kI2 : (k : Int).toNat = k := by omega
      by_cases h93 : p[k] = 93
      · have e1 : ((p[k].toNat : Int) == 93) = true := u8_is (b := 93) h93
        have HV : Hid (R = k) := Lib.hid (by rw [HK.out, bs_drop p k hlt, h93, cl_hit])
        clear h93 HK
        go_wp2_with fail
        go_ret
        exact ⟨ret_int HV.out.symm, rfl⟩
      · have e1 : ((p[k].toNat : Int) == 93) = false := u8_ne (b := 93) h93
        have HV : Hid (R = cl ((bs p).drop (k + 1)) (k + 1)) := Lib.hid (by rw [HK.out, bs_drop p k hlt, cl_miss _ _ _ h93])
        clear h93 HK
        go_wp2_with fail
        go_round
        case rel => exact ⟨k + 1, by omega, by omega, HV, by go_num⟩
        case measure => simp [intOf]; omega
    · have hge : (p.size : Int) ≤ (k : Int) := by omega
      have HV : Hid (R = -1) := Lib.hid (by rw [HK.out, drop_all p k (by omega), cl_nil])
      clear HK
      go_wp2_with fail
      go_ret
      exact ⟨ret_int HV.out.symm, rfl⟩

theorem quiet_left {P : Program} {f : FuncId} {args : Array Value} {w : World} {n : Nat} {v : Value}
    (h : Calls P f args (w.drewN n) fun e w' => e = .returned v ∧ w.drewN n = w') : Calls P f args (w.drewN n) fun e w'' => e = .returned v ∧ ∃ m, w'' = w.drewN m :=
  h.mono fun _ _ ⟨he, hm⟩ => ⟨he, n, hm.symm⟩
/-! ### Parts as they lie in memory -/
namespace Pat
def Part.kd : Part → Nat | .byte _ => 0 | .star => 1 | .any => 2 | .cls _ _ => 3
def Part.bt : Part → UInt8 | .byte b => b | .star => 42 | .any => 63 | .cls _ _ => 0
def Part.st : Part → List UInt8 | .cls _ s => s | _ => []
def Part.ng : Part → Bool | .cls n _ => n | _ => false
end Pat
def partC (x : Pat.Part × List UInt8) : List Value := [.int .i64 x.1.kd, .int .u8 x.1.bt.toNat, .string ⟨x.1.st.toArray⟩, .bool x.1.ng, .string ⟨x.2.toArray⟩]
set_option maxRecDepth 100000 in
set_option maxHeartbeats 4000000 in
theorem rfits_any (x : Pat.Part) (t : List UInt8) (c : UInt8) (b : Bool) (hb : x.fits c = b) (hs : x.isStar = false) (hl : x.st.length ≤ 100000000) (w : World) :
    Calls Tryd.prog 68 #[.agg #[.int .i64 x.kd, .int .u8 x.bt.toNat, .string ⟨x.st.toArray⟩, .bool x.ng, .string ⟨t.toArray⟩], .int .u8 c.toNat] w fun e w' => e = .returned (.bool b) ∧ Below w.heap.size w w' := by
  have HB := Lib.hid hb
  clear hb
  cases x with
  | star => cases hs
  | any =>
    have HV : Hid (b = true) := Lib.hid (by rw [← HB.out]; rfl)
    clear hs
    show Calls Tryd.prog 68 #[.agg #[.int .i64 2, .int .u8 63, .string ⟨#[]⟩, .bool false, .string ⟨t.toArray⟩], .int .u8 c.toNat] w _
    go_enter Tryd.func68, Tryd.ntmps68
    go_wp2_with fail
    go_ret
    exact ⟨ret_bool HV.out.symm, (Below.refl _ _).alloc (Nat.le_refl _) _⟩
  | byte a =>
    have e1 : ((a.toNat : Int) == (c.toNat : Int)) = b := by rw [u8_eq]; exact HB.out
    clear hs
    have HE := Lib.hid e1
    clear e1
    show Calls Tryd.prog 68 #[.agg #[.int .i64 0, .int .u8 a.toNat, .string ⟨#[]⟩, .bool false, .string ⟨t.toArray⟩], .int .u8 c.toNat] w _
    go_enter Tryd.func68, Tryd.ntmps68
    go_wp2_with fail
    go_ret
    exact ⟨ret_bool HE.out, (Below.refl _ _).alloc (Nat.le_refl _) _⟩
  | cls n s =>
    have hsz : (⟨s.toArray⟩ : ByteArray).size ≤ 140737488355328 := by rw [lit_size]; simp [Pat.Part.st] at hl; omega
    have HV : Hid ((Pat.inSet (bs ⟨s.toArray⟩) c != n) = b) := Lib.hid (by rw [bs_lit0 s]; exact HB.out)
    clear hs hl
    show Calls Tryd.prog 68 #[.agg #[.int .i64 3, .int .u8 0, .string ⟨s.toArray⟩, .bool n, .string ⟨t.toArray⟩], .int .u8 c.toNat] w _
    go_enter Tryd.func68, Tryd.ntmps68
    go_wp2_with fail
    go_quiet ((go_at_call 89; exact quiet_left (rIn_any _ _ _ hsz)))
    go_wp2_with fail
    go_ret
    exact ⟨ret_bool HV.out, ((Below.refl _ _).alloc (Nat.le_refl _) _).trans (below_drewN _ _ _)⟩
end Go.Proofs.YtdjiimblfhbcjaaDoor
