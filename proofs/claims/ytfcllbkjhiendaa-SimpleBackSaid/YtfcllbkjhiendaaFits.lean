/- simple.fits and simple.pack as pure functions, and their contracts. -/
import Derived.Test.YtfcllbkjhiendaaRoom
import Derived.Test.YtfcllbkjhiendaaBits
namespace Go.Proofs.Ytfcllbkjhiendaa.P
open Go.RowKit Go.Proofs.Ytfcllbkjhiendaa.Kit Go.Proofs.YtfcllbkjhiendaaW.PrintWords Go.Proofs.YtfcllbkjhiendaaW.PrintLast Go.Proofs.YtfcllbkjhiendaaW.PrintMore
set_option linter.unusedVariables false
set_option linter.unusedSimpArgs false

def nn (s : Nat) : Nat := [240, 120, 60, 30, 20, 15, 12, 10, 8, 7, 6, 5, 4, 3, 2, 1].getD s 0
def ww (s : Nat) : Nat := [0, 0, 1, 2, 3, 4, 5, 6, 7, 8, 10, 12, 15, 20, 30, 60].getD s 0
theorem room_f (s : Nat) (hs : s < 16) : simple_Room.f (s : Int) = some ((nn s : Int), (ww s : Int)) := by
  have key : ∀ s : Fin 16, simple_Room.f ((s : Nat) : Int) = some ((nn (s : Nat) : Int), (ww (s : Nat) : Int)) := by decide +kernel
  exact key ⟨s, hs⟩
theorem room_facts (s : Nat) (hs : s < 16) : 1 ≤ nn s ∧ nn s ≤ 240 ∧ ww s ≤ 60 ∧ nn s * ww s ≤ 60 := by
  have key : ∀ s : Fin 16, 1 ≤ nn (s : Nat) ∧ nn (s : Nat) ≤ 240 ∧ ww (s : Nat) ≤ 60 ∧ nn (s : Nat) * ww (s : Nat) ≤ 60 := by decide +kernel
  exact key ⟨s, hs⟩
/-- The numbers from place i on, so many of them, fit w bits. -/
def fitsN (l : List Int) (w : Nat) : Nat → Nat → Bool
  | 0, _ => true
  | d + 1, i => if rd l (i : Int) < 2 ^ w then fitsN l w d (i + 1) else false
def fitsB (l : List Int) (s : Nat) : Bool := if l.length < nn s then false else fitsN l (ww s) (nn s) 0
def simple_fits.f (l : List Int) (s : Int) : Option Bool := if (∀ x ∈ l, 0 ≤ x ∧ x ≤ 18446744073709551615) ∧ 0 ≤ s ∧ s < 16 ∧ l.length < 140737488355328 then some (fitsB l s.toNat) else none
theorem shr_zero (x : Int) (w : Nat) (hx : 0 ≤ x) : (x / 2 ^ w != 0) = !decide (x < 2 ^ w) := by
  have hp : (0 : Int) < 2 ^ w := Int.pow_pos (by decide)
  by_cases h : x < 2 ^ w
  · rw [Int.ediv_eq_zero_of_lt hx h, decide_eq_true h]
    rfl
  · rw [decide_eq_false h]
    have h1 : 1 ≤ x / 2 ^ w := by
      rw [Int.le_ediv_iff_mul_le hp]
      omega
    have : x / 2 ^ w ≠ 0 := by omega
    simpa using this
theorem wrap_k (k : Nat) (h : k < 140737488355328) : wrap64 ((k : Int) + 1) = ((k + 1 : Nat) : Int) := by
  rw [wrap64_id (by omega) (by omega)]
  rfl
set_option maxHeartbeats 1000000 in
set_option maxRecDepth 100000 in
theorem simple_fits.calls (A0 : Option Addr) (c0 : Nat) (l : List Int) (a1 : Int) (r : Bool) (w : World) (hr0 : Kd.C (Kd.int .u64) w A0 l.length l) (hc0 : l.length ≤ c0) (h : simple_fits.f l a1 = some r) :
    Calls Try.prog 18 #[.slice A0 l.length c0, .int .i64 a1] w fun e w' => e = .returned (.bool r) ∧ Below w.heap.size w w' := by
  unfold simple_fits.f at h
  split at h
  case isFalse => cases h
  case isTrue hc =>
    injection h with h
    subst h
    obtain ⟨hu, h0, h1, hl⟩ := hc
    obtain ⟨s, rfl⟩ := Int.eq_ofNat_of_zero_le h0
    rw [Int.toNat_natCast]
    have hs : s < 16 := by omega
    have HROOM := Aside0.mk (simple_Room.calls (s : Int) _ _ w (room_f s hs))
    obtain ⟨f1, f2, f3, _⟩ := room_facts s hs
    unfold fitsB
    generalize nn s = n at *
    generalize ww s = k at *
    by_cases hn : l.length < n
    · rw [if_pos hn]
      have c1 : decide ((l.length : Int) < (n : Int)) = true := decide_eq_true (by omega)
      have c2 : decide (l.length < n) = true := decide_eq_true hn
      clear hr0 hc0 hu h0 h1 hl hs f1 f2 f3 hn
      go_enter Try.func18, Try.ntmps18
      go_wp2_with (go_at_call 12; refine HROOM.out.mono ?_; rintro e w1 ⟨rfl, hb⟩; have HB := Aside0.mk hb; clear hb)
      go_ret
      exact ⟨rfl, HB.out⟩
    · rw [if_neg hn]
      obtain ⟨ad, rfl, _⟩ := Kd.at_int hr0 0 (by omega) (by omega)
      have HR := Aside0.mk hr0
      have HU := Aside0.mk hu
      have HN := Aside0.mk (show n ≤ l.length ∧ l.length ≤ c0 ∧ n ≤ 240 ∧ k ≤ 60 ∧ l.length < 140737488355328 from ⟨by omega, hc0, f2, f3, hl⟩)
      have c1 : decide ((l.length : Int) < (n : Int)) = false := decide_eq_false (by omega)
      have c2 : decide (l.length < n) = false := decide_eq_false hn
      have p1 : (0 ≤ (n : Int)) = True := eq_true (by omega)
      have p2 : ((n : Int) ≤ (c0 : Int)) = True := eq_true (by omega)
      have p3 : (n ≤ c0) = True := eq_true (by omega)
      clear hr0 hc0 hu h0 h1 hl hs f1 f2 f3 hn
      go_enter Try.func18, Try.ntmps18
      go_wp2_with (go_at_call 12; refine HROOM.out.mono ?_; rintro e w1 ⟨rfl, hb⟩; have HB := Aside0.mk hb; have HR1 := Aside0.mk (Kd.C_below HR.out hb); clear hb)
      go_loopg [8, 22] n (fun kq v8 v22 W' => ∃ i : Nat, v22 = .int .i64 (i : Int) ∧ kq = n - i ∧ i ≤ n ∧ Aside0 (fitsN l k (n - i) i = fitsN l k n 0) ∧ W' = w1)
      case atStart => exact ⟨0, rfl, rfl, Nat.zero_le _, ⟨rfl⟩, rfl⟩
      case round =>
        obtain ⟨i, rfl, rfl, hi, HF, rfl⟩ := hrel
        by_cases hlt : i < n
        · have c3 : decide ((i : Int) < (n : Int)) = true := decide_eq_true (by omega)
          have c4 : decide (i < n) = true := decide_eq_true hlt
          obtain ⟨ad2, e2, hx⟩ := Kd.at_int HR1.out (i : Int) (by omega) (by have := HN.out; omega)
          cases e2
          rw [Int.toNat_natCast] at hx
          have hmem : 0 ≤ rd l (i : Int) := (HU.out _ (rd_mem l (i : Int) (by omega) (by have := HN.out; omega))).1
          have q1 : (0 ≤ (k : Int)) = True := eq_true (by omega)
          have q2 : ((k : Int) ≤ 64) = True := eq_true (by have := HN.out; omega)
          have q3 : (k ≤ 64) = True := eq_true (by have := HN.out; omega)
          have hz := shr_zero (rd l (i : Int)) k hmem
          have hw := wrap_k i (by have := HN.out; omega)
          have hun := HF.out
          rw [show n - i = (n - (i + 1)) + 1 by clear hw hz; omega, fitsN] at hun
          by_cases hb : rd l (i : Int) < 2 ^ k
          · rw [decide_eq_true hb] at hz
            rw [if_pos hb] at hun
            have HF2 := Aside0.mk hun
            clear hmem hb hun HF
            go_wp2
            go_roundg (n - (i + 1))
            case measure => exact (by clear hw; omega)
            case rel =>
              rw [hw]
              exact ⟨i + 1, rfl, rfl, hlt, HF2, rfl⟩
          · rw [decide_eq_false hb] at hz
            rw [if_neg hb] at hun
            have HF2 := Aside0.mk hun
            clear hmem hb hun HF
            go_wp2
            go_ret
            exact ⟨by rw [← HF2.out]; rfl, HB.out⟩
        · have c3 : decide ((i : Int) < (n : Int)) = false := decide_eq_false (by omega)
          have c4 : decide (i < n) = false := decide_eq_false hlt
          have e : n - i = 0 := by omega
          rw [e] at HF
          go_wp2
          go_ret
          exact ⟨by rw [← HF.out]; rfl, HB.out⟩
/-- Numbers of w bits each, one behind the other, behind v. -/
def packN (l : List Int) (w : Nat) : Nat → Nat → Int → Int
  | 0, _, v => v
  | d + 1, i, v => packN l w d (i + 1) (v * 2 ^ w + rd l (i : Int))
def packB (l : List Int) (s : Nat) : Int := (s : Int) * 1152921504606846976 + packN l (ww s) (nn s) 0 0 * 2 ^ (60 - nn s * ww s)
def simple_pack.f (l : List Int) (s : Int) : Option Int := if (∀ x ∈ l, 0 ≤ x ∧ x ≤ 18446744073709551615) ∧ 0 ≤ s ∧ s < 16 ∧ l.length < 140737488355328 ∧ fitsB l s.toNat = true then some (packB l s.toNat) else none
theorem packN_step (l : List Int) (w : Nat) (i : Nat) (v : Int) (hv0 : 0 ≤ v) (hv : v < 2 ^ (i * w)) (hx0 : 0 ≤ rd l (i : Int)) (hx : rd l (i : Int) < 2 ^ w) (hw : (i + 1) * w ≤ 60) :
    Go.bits .or .u64 (IntKind.u64.wrap (v * 2 ^ w)) (rd l (i : Int)) = v * 2 ^ w + rd l (i : Int) ∧ 0 ≤ v * 2 ^ w + rd l (i : Int) ∧ v * 2 ^ w + rd l (i : Int) < 2 ^ ((i + 1) * w) := by
  have hp : (0 : Int) < 2 ^ w := Int.pow_pos (by decide)
  have e : (2 : Int) ^ ((i + 1) * w) = 2 ^ (i * w) * 2 ^ w := by rw [Nat.add_mul, Nat.one_mul, Int.pow_add]
  have h1 : (v + 1) * 2 ^ w ≤ 2 ^ (i * w) * 2 ^ w := Int.mul_le_mul_of_nonneg_right (by omega) (by omega)
  have h2 : (2 : Int) ^ ((i + 1) * w) ≤ 2 ^ 60 := by exact_mod_cast Nat.pow_le_pow_right (by decide) hw
  have h0 : 0 ≤ v * 2 ^ w := Int.mul_nonneg hv0 (by omega)
  rw [Int.add_mul, Int.one_mul] at h1
  rw [e] at h2 ⊢
  have h3 : (2 : Int) ^ 60 = 1152921504606846976 := by decide
  rw [h3] at h2
  rw [k64_id _ h0 (by omega)]
  have h4 := k64_or_add' w (rd l (i : Int)) (v * 2 ^ w) hx0 hx h0 (Int.mul_emod_left _ _) (by omega) (by omega)
  exact ⟨h4, by omega, by omega⟩
theorem pack_last (s n w : Nat) (v : Int) (hs : s < 16) (hv0 : 0 ≤ v) (hv : v < 2 ^ (n * w)) (hw : n * w ≤ 60) : Go.bits .or .u64 (IntKind.u64.wrap ((s : Int) * 1152921504606846976)) (IntKind.u64.wrap (v * 2 ^ (60 - n * w))) = (s : Int) * 1152921504606846976 + v * 2 ^ (60 - n * w) := by
  have hp : (0 : Int) < 2 ^ (60 - n * w) := Int.pow_pos (by decide)
  have h1 : (v + 1) * 2 ^ (60 - n * w) ≤ 2 ^ (n * w) * 2 ^ (60 - n * w) := Int.mul_le_mul_of_nonneg_right (by omega) (by omega)
  rw [← Int.pow_add, show n * w + (60 - n * w) = 60 by omega, Int.add_mul, Int.one_mul, show (2 : Int) ^ 60 = 1152921504606846976 by decide] at h1
  have h0 : 0 ≤ v * 2 ^ (60 - n * w) := Int.mul_nonneg hv0 (by omega)
  rw [k64_id _ (by omega) (by omega), k64_id _ h0 (by omega)]
  exact k64_or_add' 60 (v * 2 ^ (60 - n * w)) ((s : Int) * 1152921504606846976) h0 (by omega) (by omega) (by rw [show (2 : Int) ^ 60 = 1152921504606846976 by decide]; omega) (by omega) (by omega)
theorem fitsN_rd (l : List Int) (w d : Nat) : ∀ i, fitsN l w d i = true → ∀ j, i ≤ j → j < i + d → rd l (j : Int) < 2 ^ w := by
  induction d with
  | zero => intro i _ j h1 h2; omega
  | succ d ih =>
    intro i h j h1 h2
    rw [fitsN] at h
    split at h
    · next hx =>
      by_cases e : j = i
      · rw [e]
        exact hx
      · exact ih (i + 1) h j (by omega) (by omega)
    · cases h
theorem fitsB_facts {l : List Int} {s : Nat} (h : fitsB l s = true) : nn s ≤ l.length ∧ ∀ j, j < nn s → rd l (j : Int) < 2 ^ ww s := by
  unfold fitsB at h
  split at h
  · cases h
  · exact ⟨by omega, fun j hj => fitsN_rd l _ _ 0 h j (by omega) (by omega)⟩
set_option maxHeartbeats 1000000 in
set_option maxRecDepth 100000 in
theorem simple_pack.calls (A0 : Option Addr) (c0 : Nat) (l : List Int) (a1 : Int) (r : Int) (w : World) (hr0 : Kd.C (Kd.int .u64) w A0 l.length l) (hc0 : l.length ≤ c0) (h : simple_pack.f l a1 = some r) :
    Calls Try.prog 20 #[.slice A0 l.length c0, .int .i64 a1] w fun e w' => e = .returned (.int .u64 r) ∧ Below w.heap.size w w' := by
  unfold simple_pack.f at h
  split at h
  case isFalse => cases h
  case isTrue hc =>
    injection h with h
    subst h
    obtain ⟨hu, h0, h1, hl, hfit⟩ := hc
    obtain ⟨s, rfl⟩ := Int.eq_ofNat_of_zero_le h0
    rw [Int.toNat_natCast] at hfit ⊢
    have hs : s < 16 := by omega
    have HROOM := Aside0.mk (simple_Room.calls (s : Int) _ _ w (room_f s hs))
    obtain ⟨f1, f2, f3, f4⟩ := room_facts s hs
    obtain ⟨g1, g2⟩ := fitsB_facts hfit
    unfold packB
    generalize nn s = n at *
    generalize ww s = k at *
    obtain ⟨ad, rfl, _⟩ := Kd.at_int hr0 0 (by omega) (by omega)
    have HR := Aside0.mk hr0
    have HU := Aside0.mk hu
    have HG := Aside0.mk g2
    have HN := Aside0.mk (show n ≤ l.length ∧ l.length ≤ c0 ∧ n ≤ 240 ∧ k ≤ 60 ∧ n * k ≤ 60 ∧ s < 16 from ⟨by omega, hc0, f2, f3, f4, hs⟩)
    have p1 : (0 ≤ (n : Int)) = True := eq_true (by omega)
    have p2 : ((n : Int) ≤ (c0 : Int)) = True := eq_true (by omega)
    have p3 : (n ≤ c0) = True := eq_true (by omega)
    clear hr0 hc0 hu h0 h1 hl hs f1 f2 f3 f4 g1 g2 hfit
    go_enter Try.func20, Try.ntmps20
    go_wp2_with (go_at_call 12; refine HROOM.out.mono ?_; rintro e w1 ⟨rfl, hb⟩; have HB := Aside0.mk hb; have HR1 := Aside0.mk (Kd.C_below HR.out hb); clear hb)
    go_loopg [7, 9, 19] n (fun kq v7 v9 v19 W' => ∃ (i : Nat) (v : Int), v7 = .int .u64 v ∧ v19 = .int .i64 (i : Int) ∧ kq = n - i ∧ i ≤ n ∧ Aside0 (0 ≤ v ∧ v < 2 ^ (i * k)) ∧ Aside0 (packN l k (n - i) i v = packN l k n 0 0) ∧ W' = w1)
    case atStart => exact ⟨0, 0, rfl, rfl, rfl, Nat.zero_le _, ⟨by simp⟩, ⟨rfl⟩, rfl⟩
    case round =>
      obtain ⟨i, v, rfl, rfl, rfl, hi, HV, HF, rfl⟩ := hrel
      by_cases hlt : i < n
      · have c3 : decide ((i : Int) < (n : Int)) = true := decide_eq_true (by omega)
        have c4 : decide (i < n) = true := decide_eq_true hlt
        obtain ⟨ad2, e2, hx⟩ := Kd.at_int HR1.out (i : Int) (by omega) (by have := HN.out; omega)
        cases e2
        rw [Int.toNat_natCast] at hx
        have hmem : 0 ≤ rd l (i : Int) := (HU.out _ (rd_mem l (i : Int) (by omega) (by have := HN.out; omega))).1
        have hik : (i + 1) * k ≤ 60 := Nat.le_trans (Nat.mul_le_mul_right k hlt) HN.out.2.2.2.2.1
        have HSTEP := Aside0.mk (packN_step l k i v HV.out.1 HV.out.2 hmem (HG.out i hlt) hik)
        have q1 : (0 ≤ (k : Int)) = True := eq_true (by omega)
        have q2 : ((k : Int) ≤ 64) = True := eq_true (by have := HN.out; omega)
        have q3 : (k ≤ 64) = True := eq_true (by have := HN.out; omega)
        have hw := wrap_k i (by have := HN.out; omega)
        have hun := HF.out
        rw [show n - i = (n - (i + 1)) + 1 by clear hw; omega, packN] at hun
        have HF2 := Aside0.mk hun
        clear hmem hik hun HF
        go_wp2
        go_roundg (n - (i + 1))
        case measure => exact (by clear hw; omega)
        case rel =>
          rw [hw, HSTEP.out.1]
          exact ⟨i + 1, _, rfl, rfl, rfl, hlt, ⟨HSTEP.out.2⟩, HF2, rfl⟩
      · have c3 : decide ((i : Int) < (n : Int)) = false := decide_eq_false (by omega)
        have c4 : decide (i < n) = false := decide_eq_false hlt
        have e : n - i = 0 := by omega
        have e3 : i = n := by omega
        rw [e] at HF
        subst e3
        have hfv : v = packN l k i 0 0 := HF.out
        have HL := Aside0.mk (pack_last s i k v HN.out.2.2.2.2.2 HV.out.1 HV.out.2 HN.out.2.2.2.2.1)
        obtain ⟨m, hm⟩ : ∃ m : Nat, m = 60 - i * k := ⟨_, rfl⟩
        have m1 : wrap64 ((i : Int) * (k : Int)) = (i : Int) * (k : Int) := by
          have h1 := HN.out.2.2.2.2.1
          have h2 : (i : Int) * (k : Int) = ((i * k : Nat) : Int) := by simp
          rw [h2]
          exact wrap64_id (by omega) (by omega)
        have m2 : wrap64 (60 - (i : Int) * (k : Int)) = (m : Int) := by
          have h1 := HN.out.2.2.2.2.1
          have h2 : (i : Int) * (k : Int) = ((i * k : Nat) : Int) := by simp
          rw [h2, wrap64_id (by omega) (by omega)]
          omega
        have m3 : (m ≤ 64) = True := eq_true (by omega)
        have m4 : ((m : Int) ≤ 64) = True := eq_true (by omega)
        rw [← hm] at HL
        have HFV := Aside0.mk hfv
        have HM := Aside0.mk hm
        have hws : IntKind.u64.wrap (s : Int) = (s : Int) := by
          have := HN.out.2.2.2.2.2
          exact k64_id _ (by omega) (by omega)
        clear hfv hm
        go_wp2
        go_ret
        exact ⟨by rw [← HFV.out, ← HM.out, ← HL.out]; rfl, HB.out⟩
end Go.Proofs.Ytfcllbkjhiendaa.P
