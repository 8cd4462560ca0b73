/- What gorilla writes, as bits: windows, items, and their sizes. -/
import Derived.Test.YtfpnoceppjjafaaDoorGfit
import Derived.Test.YtfpnoceppjjafaaDoorBitS
namespace Go.Proofs.YtfpnoceppjjafaaDoor.P
open Go.RowKit Go.Proofs.YtfpnoceppjjafaaDoor.Kit Go.Proofs.YtfpnoceppjjafaaDoorW.PrintWords Go.Proofs.YtfpnoceppjjafaaDoorW.PrintLast Go.Proofs.YtfpnoceppjjafaaDoorW.PrintMore
set_option linter.unusedVariables false
set_option linter.unusedSimpArgs false

def xw (a b : Int) : Int := Go.bits .xor .u64 a b
theorem xw_nat {a b : Int} (ha : U a) (hb : U b) : xw a b = ((a.toNat ^^^ b.toNat : Nat) : Int) := by
  unfold U at ha hb
  obtain ⟨m, rfl⟩ := Int.eq_ofNat_of_zero_le ha.1
  obtain ⟨n, rfl⟩ := Int.eq_ofNat_of_zero_le hb.1
  exact k64_xor_nat m n (by omega) (by omega)
theorem xw_U {a b : Int} (ha : U a) (hb : U b) : U (xw a b) := by
  rw [xw_nat ha hb]
  unfold U at *
  have := Nat.xor_lt_two_pow (n := 64) (show a.toNat < 2 ^ 64 by omega) (show b.toNat < 2 ^ 64 by omega)
  omega
theorem xw_back {a b : Int} (ha : U a) (hb : U b) : xw (xw a b) b = a := by
  rw [xw_nat (xw_U ha hb) hb, xw_nat ha hb, Int.toNat_natCast, Nat.xor_assoc, Nat.xor_self, Nat.xor_zero]
  unfold U at ha
  omega
theorem bl_lt (n : Nat) : ∀ w, n < 18446744073709551616 → Lib.bitLen n ≤ w → n < 2 ^ w := by
  induction n using Nat.strongRecOn with
  | _ n ih =>
    intro w hn h
    rcases Nat.eq_zero_or_pos n with rfl | h0
    · exact Nat.two_pow_pos w
    · rw [Lib.bitLen_half n (by omega) hn] at h
      obtain ⟨m, rfl⟩ : ∃ m, w = m + 1 := ⟨w - 1, by omega⟩
      have := ih (n / 2) (by omega) m (by omega) (by omega)
      rw [Nat.pow_succ]
      omega
/-- A number's pattern has a 1 between its zeros. -/
theorem lz_tz {x : Int} (h : U x) (h0 : x ≠ 0) : lz x + tz x ≤ 63 := by
  unfold U at h
  obtain ⟨n, rfl⟩ := Int.eq_ofNat_of_zero_le h.1
  unfold lz tz Lib.ctz
  rw [Int.toNat_natCast, if_neg (by omega)]
  obtain ⟨m, hm, hk⟩ := Lib.ctzFrom_spec 64 n (by omega) (by omega)
  have h1 : 2 ^ Lib.ctzFrom 64 n ≤ n := by
    have : 2 ^ Lib.ctzFrom 64 n * 1 ≤ 2 ^ Lib.ctzFrom 64 n * (2 * m + 1) := Nat.mul_le_mul_left _ (by omega)
    omega
  have h2 : n < 2 ^ Lib.bitLen n := bl_lt n _ (by omega) (Nat.le_refl _)
  have h3 : Lib.ctzFrom 64 n < Lib.bitLen n := (Nat.pow_lt_pow_iff_right (by decide : 1 < 2)).1 (by omega)
  omega
/-- The lowest zeros are no part of it. -/
theorem tz_dvd {x : Int} (h : U x) {z : Nat} (hz : (z : Int) ≤ tz x) : x % 2 ^ z = 0 := by
  unfold U at h
  obtain ⟨n, rfl⟩ := Int.eq_ofNat_of_zero_le h.1
  by_cases h0 : n = 0
  · subst h0
    simp
  · unfold tz Lib.ctz at hz
    rw [Int.toNat_natCast, if_neg h0] at hz
    obtain ⟨m, hm, hk⟩ := Lib.ctzFrom_spec 64 n (by omega) (by omega)
    have hd : 2 ^ z ∣ n := by
      rw [hm]
      exact Nat.dvd_trans (Nat.pow_dvd_pow 2 (by omega)) (Nat.dvd_mul_right _ _)
    have := Nat.mod_eq_zero_of_dvd hd
    exact_mod_cast this
def stepW (p : Int × Int) (x : Int) : Int × Int := if x = 0 then p else if fitsW p.1 p.2 x then p else (ld x, tz x)
def stepB (p : Int × Int) (x : Int) : List Int :=
  if x = 0 then bitsOf 1 0 else if fitsW p.1 p.2 x then bitsOf 2 2 ++ bitsOf (64 - p.1 - p.2).toNat (x / 2 ^ p.2.toNat)
  else bitsOf 2 3 ++ (bitsOf 5 (ld x) ++ (bitsOf 6 (63 - ld x - tz x) ++ bitsOf (64 - ld x - tz x).toNat (x / 2 ^ (tz x).toNat)))
/-- What differs at a place. -/
def dx (l : List Int) (i : Nat) : Int := xw (rd l (i : Int)) (rd l ((i : Int) - 1))
/-- The window ahead of a place. -/
def gW (l : List Int) : Nat → Int × Int
  | 0 => (-1, 0)
  | i + 1 => if i = 0 then (-1, 0) else stepW (gW l i) (dx l i)
def gItem (l : List Int) (i : Nat) : List Int := if i = 0 then bitsOf 64 (rd l 0) else stepB (gW l i) (dx l i)
def gB (l : List Int) (n : Nat) : List Int := (List.range n).flatMap (gItem l)
def gEnc (l : List Int) : List Int × Int := if 65536 < l.length then ([], 4) else (pack (gB l l.length), 0)
theorem gB_succ (l : List Int) (i : Nat) : gB l (i + 1) = gB l i ++ gItem l i := by simp [gB, List.range_succ]
/-- A window that may be. -/
def okW (p : Int × Int) : Prop := p = (-1, 0) ∨ 0 ≤ p.1 ∧ p.1 ≤ 31 ∧ 0 ≤ p.2 ∧ p.1 + p.2 ≤ 63
theorem ld_le {x : Int} (h : U x) : 0 ≤ ld x ∧ ld x ≤ 31 ∧ ld x ≤ lz x := by
  have := lz_le h
  unfold ld mn
  split <;> omega
theorem fitsW_true {a z x : Int} (h : fitsW a z x = true) : ¬ (a = -1 ∧ z = 0) ∧ a ≤ lz x ∧ z ≤ tz x := by
  unfold fitsW at h
  simp only [Bool.and_eq_true, Bool.not_eq_true', decide_eq_true_eq] at h
  refine ⟨fun ⟨e1, e2⟩ => ?_, h.2⟩
  rw [e1, e2] at h
  exact absurd h.1 (by decide)
theorem stepW_ok {p : Int × Int} {x : Int} (hp : okW p) (h : U x) : okW (stepW p x) := by
  unfold stepW
  split
  · exact hp
  · split
    · exact hp
    · next h0 _ =>
      have := ld_le h
      have := lz_tz h h0
      have := tz_le h
      exact .inr ⟨by omega, by omega, by omega, by omega⟩
theorem dx_U {l : List Int} (hu : ∀ x ∈ l, U x) {i : Nat} (h0 : 0 < i) (hi : i < l.length) : U (dx l i) :=
  xw_U (hu _ (rd_mem l (i : Int) (by omega) (by omega))) (hu _ (rd_mem l ((i : Int) - 1) (by omega) (by omega)))
theorem gW_ok {l : List Int} (hu : ∀ x ∈ l, U x) : ∀ i, i ≤ l.length → okW (gW l i)
  | 0, _ => .inl rfl
  | i + 1, hi => by
    unfold gW
    split
    · exact .inl rfl
    · exact stepW_ok (gW_ok hu i (by omega)) (dx_U hu (by omega) (by omega))
theorem stepB_len {p : Int × Int} {x : Int} (hp : okW p) (h : U x) : 1 ≤ (stepB p x).length ∧ (stepB p x).length ≤ 77 := by
  have := ld_le h
  have := tz_le h
  unfold stepB
  split
  · rw [bitsOf_length]
    omega
  · split
    · rw [List.length_append, bitsOf_length, bitsOf_length]
      rcases hp with rfl | hp
      · simp only [Prod.fst, Prod.snd]
        omega
      · omega
    · simp only [List.length_append, bitsOf_length]
      omega
theorem gItem_len {l : List Int} (hu : ∀ x ∈ l, U x) {i : Nat} (hi : i < l.length) : 1 ≤ (gItem l i).length ∧ (gItem l i).length ≤ 77 := by
  unfold gItem
  split
  · rw [bitsOf_length]
    omega
  · exact stepB_len (gW_ok hu i (by omega)) (dx_U hu (by omega) hi)
theorem gB_len {l : List Int} (hu : ∀ x ∈ l, U x) : ∀ i, i ≤ l.length → i ≤ (gB l i).length ∧ (gB l i).length ≤ i * 77
  | 0, _ => by simp [gB]
  | i + 1, hi => by
    rw [gB_succ, List.length_append]
    have := gB_len hu i (by omega)
    have := gItem_len hu (show i < l.length by omega)
    omega
theorem stepB_01 (p : Int × Int) (x : Int) : is01 (stepB p x) := by
  unfold stepB
  split
  · exact bitsOf_01 _ _
  · split
    · exact is01_append (bitsOf_01 _ _) (bitsOf_01 _ _)
    · exact is01_append (bitsOf_01 _ _) (is01_append (bitsOf_01 _ _) (is01_append (bitsOf_01 _ _) (bitsOf_01 _ _)))
theorem gItem_01 (l : List Int) (i : Nat) : is01 (gItem l i) := by
  unfold gItem
  split
  · exact bitsOf_01 _ _
  · exact stepB_01 _ _
theorem gB_01 (l : List Int) : ∀ i, is01 (gB l i)
  | 0 => by simp [gB, is01]
  | i + 1 => by rw [gB_succ]; exact is01_append (gB_01 l i) (gItem_01 l i)
/-- A pattern's rest fits its width. -/
theorem shr_fit {x a z : Int} (h : U x) (ha : 0 ≤ a) (hz : 0 ≤ z) (hs : a + z ≤ 64) (hl : a ≤ lz x) : U (x / 2 ^ z.toNat) ∧ (Lib.bitLen (x / 2 ^ z.toNat).toNat : Int) ≤ 64 - a - z := by
  unfold U at h
  obtain ⟨n, rfl⟩ := Int.eq_ofNat_of_zero_le h.1
  obtain ⟨a, rfl⟩ := Int.eq_ofNat_of_zero_le ha
  obtain ⟨z, rfl⟩ := Int.eq_ofNat_of_zero_le hz
  rw [Int.toNat_natCast]
  have e : (n : Int) / 2 ^ z = ((n / 2 ^ z : Nat) : Int) := by norm_cast
  rw [e, Int.toNat_natCast]
  have hn : n < 2 ^ (64 - a) := bl_lt n (64 - a) (by omega) (by unfold lz at hl; rw [Int.toNat_natCast] at hl; omega)
  have hq : n / 2 ^ z < 2 ^ (64 - a - z) := by
    rw [Nat.div_lt_iff_lt_mul (Nat.two_pow_pos z), ← Nat.pow_add, show 64 - a - z + z = 64 - a by omega]
    exact hn
  have hle : n / 2 ^ z ≤ n := Nat.div_le_self _ _
  generalize n / 2 ^ z = q at *
  refine ⟨⟨by omega, by omega⟩, ?_⟩
  have := Lib.bitLen_le q (64 - a - z) (by omega) hq
  omega
theorem put_ok {s : List Int} {v : Int} {w : Nat} (hs : s.length + 64 < 16777216) (hv : U v) (hw : w ≤ 64) (hl : Lib.bitLen v.toNat ≤ w) : bits_Writer_Put.f s v (w : Int) = some (0, s ++ bitsOf w v) := by
  unfold U at hv
  unfold bits_Writer_Put.f
  rw [if_pos ⟨hs, by omega, by omega⟩]
  unfold wPut
  rw [if_neg (by omega), Int.toNat_natCast]
theorem put_small {s : List Int} {v w : Nat} (hs : s.length + 64 < 16777216) (hw : w ≤ 63) (hl : v < 2 ^ w) : bits_Writer_Put.f s (v : Int) (w : Int) = some (0, s ++ bitsOf w (v : Int)) := by
  have h1 : v < 2 ^ 63 := Nat.lt_of_lt_of_le hl (Nat.pow_le_pow_right (by decide) hw)
  refine put_ok hs ⟨by omega, by omega⟩ (by omega) ?_
  rw [Int.toNat_natCast]
  exact Lib.bitLen_le _ _ (by omega) hl
/-- Another block of another type is none of the writer's. -/
theorem IsS40.set {w0 W : World} {g gw t : Nat} {f0 : List Int} {cs : Array Value} (h : IsS40 w0 W g f0) (hw : W.heap[gw]? = some (.cells cs t (0, 0))) (ht : t ≠ 40 ∧ t ≠ 5) (i : Nat) (u : Value) : IsS40 w0 (W.setCell ⟨gw, i, none⟩ u) g f0 := by
  obtain ⟨b, n, ⟨v, hg, hb, hr⟩, hx⟩ := h
  have hne : g ≠ gw := by
    rintro rfl
    rw [hg] at hw
    injection hw with hw
    injection hw with _ h5
    exact ht.1 h5.symm
  have hr' := Kd.R_types hr hw (fun q hq => by
    rcases List.mem_cons.1 hq with rfl | hq
    · exact ht.2.symm
    · exact absurd hq (by rw [show (Kd.int .u8).E = [] from rfl]; exact List.not_mem_nil))
  exact ⟨b, n, ⟨v, (Below.heap_setCell W ⟨gw, i, none⟩ u g hne).trans hg, hb, Kd.R_mono (Kd.R_far hr' (fun k hk => hk.2) u) (fun _ hk => ⟨hk.1.1, trivial⟩)⟩, hx⟩
end Go.Proofs.YtfpnoceppjjafaaDoor.P
