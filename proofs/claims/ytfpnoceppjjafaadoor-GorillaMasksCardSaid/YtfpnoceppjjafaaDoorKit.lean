/- Small plain facts on printed functions with rounds: what a function comes to with enough rounds. -/
import Derived.Test.YtfpnoceppjjafaaDoorWMore
namespace Go.Proofs.YtfpnoceppjjafaaDoor.Kit
open Go.RowKit Go.Proofs.YtfpnoceppjjafaaDoorW.PrintWords Go.Proofs.YtfpnoceppjjafaaDoorW.PrintLast Go.Proofs.YtfpnoceppjjafaaDoorW.PrintMore
set_option linter.unusedVariables false
set_option linter.unusedSimpArgs false

/-- With enough rounds g comes to r. -/
def Evn {α : Type} (g : Nat → Option α) (r : α) : Prop := ∃ n, ∀ k, n ≤ k → g k = some r
section
variable {α β : Type}
theorem Evn.pure (r : α) : Evn (fun _ => some r) r := ⟨0, fun _ _ => rfl⟩
theorem Evn.const {x : Option α} {r : α} (h : x = some r) : Evn (fun _ => x) r := ⟨0, fun _ _ => h⟩
theorem Evn.get {g : Nat → Option α} {r : α} (h : Evn g r) : ∃ k, g k = some r := by
  obtain ⟨n, h⟩ := h
  exact ⟨n, h n (Nat.le_refl _)⟩
theorem Evn.bind {g : Nat → Option α} {h : Nat → α → Option β} {a : α} {r : β} (hg : Evn g a) (hh : Evn (fun k => h k a) r) : Evn (fun k => (g k).bind (h k)) r := by
  obtain ⟨n, hg⟩ := hg
  obtain ⟨m, hh⟩ := hh
  refine ⟨max n m, fun k hk => ?_⟩
  show (g k).bind (h k) = some r
  rw [hg k (by omega), Option.bind_some]
  exact hh k (by omega)
theorem Evn.bindc {x : Option α} {h : Nat → α → Option β} {a : α} {r : β} (hg : x = some a) (hh : Evn (fun k => h k a) r) : Evn (fun k => x.bind (h k)) r := by
  subst hg
  exact hh
/-- One round: the function at k + 1 rounds is this. -/
theorem Evn.succ {F G : Nat → Option α} {r : α} (h : Evn G r) (e : ∀ k, F (k + 1) = G k) : Evn F r := by
  obtain ⟨n, h⟩ := h
  refine ⟨n + 1, fun k hk => ?_⟩
  obtain ⟨m, rfl⟩ : ∃ m, k = m + 1 := ⟨k - 1, by omega⟩
  rw [e]
  exact h m (by omega)
/-- One round less: with the round's text laid open by 'simp only [F]'. -/
theorem Evn.round {F : Nat → Option α} {r : α} (h : Evn (fun k => F (k + 1)) r) : Evn F r := Evn.succ h fun _ => rfl
theorem Evn.of {g : Nat → Option α} (hg : ∀ k, LeO (g k) (g (k + 1))) (n : Nat) {r : α} (h : g n = some r) : Evn g r := ⟨n, fun _ hk => at_rounds hg hk h⟩
theorem Evn.eq {g : Nat → Option α} {r r' : α} (h : Evn g r) (e : r = r') : Evn g r' := e ▸ h
theorem Evn.uniq {g : Nat → Option α} {r r' : α} (h : Evn g r) (h' : Evn g r') : r = r' := by
  obtain ⟨n, h⟩ := h
  obtain ⟨m, h'⟩ := h'
  have := h (max n m) (by omega)
  rw [h' (max n m) (by omega)] at this
  exact (Option.some.inj this).symm
theorem Evn.pos {c : Prop} [Decidable c] {f g : Nat → Option α} {r : α} (hc : c) (h : Evn f r) : Evn (fun k => if c then f k else g k) r := by
  simp only [if_pos hc]
  exact h
theorem Evn.neg {c : Prop} [Decidable c] {f g : Nat → Option α} {r : α} (hc : ¬ c) (h : Evn g r) : Evn (fun k => if c then f k else g k) r := by
  simp only [if_neg hc]
  exact h
end

theorem wf64 {x : Int} (h : (Lit.int .i64 x).wf = true) : -9223372036854775808 ≤ x ∧ x ≤ 9223372036854775807 := by
  simpa [Lit.wf, IntKind.min, IntKind.max, IntKind.signed, IntKind.bits] using h
theorem wfu64 {x : Int} (h : (Lit.int .u64 x).wf = true) : 0 ≤ x ∧ x < 18446744073709551616 := by
  have : 0 ≤ x ∧ x ≤ 18446744073709551615 := by simpa [Lit.wf, IntKind.min, IntKind.max, IntKind.signed, IntKind.bits] using h
  omega
theorem wfu8 {x : Int} (h : (Lit.int .u8 x).wf = true) : 0 ≤ x ∧ x < 256 := by
  have : 0 ≤ x ∧ x ≤ 255 := by simpa [Lit.wf, IntKind.min, IntKind.max, IntKind.signed, IntKind.bits] using h
  omega
theorem wrap64_id {n : Int} (h0 : -9223372036854775808 ≤ n) (h1 : n ≤ 9223372036854775807) : wrap64 n = n := by
  unfold wrap64
  omega
theorem wrap64_bd (n : Int) : -9223372036854775808 ≤ wrap64 n ∧ wrap64 n ≤ 9223372036854775807 := by
  unfold wrap64
  omega
theorem wrapu64 (n : Int) : IntKind.u64.wrap n = n % 18446744073709551616 := by
  simp [IntKind.wrap, IntKind.signed, IntKind.bits]
/-! reading a list at a whole number -/
theorem rd_nat (l : List Int) (i : Nat) : rd l (i : Int) = l.getD i 0 := by simp [rd]
theorem rd_mid (p : List Int) (a : Int) (t : List Int) (i : Int) (h : i = (p.length : Int)) : rd (p ++ a :: t) i = a := by
  subst h
  simp [rd]
theorem rd_left (p t : List Int) (i : Int) (h0 : 0 ≤ i) (h : i < (p.length : Int)) : rd (p ++ t) i = rd p i := by
  have h1 : i.toNat < p.length := by omega
  simp [rd, List.getElem?_append_left h1]
theorem rd_right (p t : List Int) (i : Int) (h : (p.length : Int) ≤ i) : rd (p ++ t) i = rd t (i - p.length) := by
  have h1 : p.length ≤ i.toNat := by omega
  have h2 : i.toNat - p.length = (i - (p.length : Int)).toNat := by omega
  show (p ++ t).getD i.toNat 0 = t.getD (i - (p.length : Int)).toNat 0
  rw [List.getD_eq_getElem?_getD, List.getD_eq_getElem?_getD, List.getElem?_append_right h1, h2]
theorem rd_cons_zero (a : Int) (t : List Int) : rd (a :: t) 0 = a := rfl
theorem rd_cons (a : Int) (t : List Int) (i : Int) (h : 0 < i) : rd (a :: t) i = rd t (i - 1) := by
  have h1 : i.toNat = (i - 1).toNat + 1 := by omega
  show (a :: t).getD i.toNat 0 = t.getD (i - 1).toNat 0
  rw [h1, List.getD_cons_succ]
theorem set_mid (p : List Int) (a v : Int) (t : List Int) (i : Nat) (h : i = p.length) : (p ++ a :: t).set i v = p ++ v :: t := by
  subst h
  simp
theorem rd_mem (l : List Int) (i : Int) (h0 : 0 ≤ i) (h : i < (l.length : Int)) : rd l i ∈ l := by
  have h1 : i.toNat < l.length := by omega
  simp [rd, List.getD_eq_getElem?_getD, List.getElem?_eq_getElem h1]
theorem rd_take (l : List Int) (n : Nat) (i : Int) (h0 : 0 ≤ i) (h : i < (n : Int)) : rd (l.take n) i = rd l i := by
  have h1 : i.toNat < n := by omega
  simp [rd, List.getD_eq_getElem?_getD, List.getElem?_take, h1]
theorem rd_drop (l : List Int) (n : Nat) (i : Int) (h0 : 0 ≤ i) : rd (l.drop n) i = rd l (i + n) := by
  have h1 : (i + (n : Int)).toNat = n + i.toNat := by omega
  simp [rd, List.getD_eq_getElem?_getD, List.getElem?_drop, h1]
theorem ext_rd {a b : List Int} (hl : a.length = b.length) (h : ∀ i : Nat, i < a.length → rd a (i : Int) = rd b (i : Int)) : a = b := by
  refine List.ext_getElem hl fun i h1 h2 => ?_
  have := h i h1
  simpa [rd, List.getD_eq_getElem?_getD, List.getElem?_eq_getElem h1, List.getElem?_eq_getElem h2] using this
/-- 'c & (2^i - 1)', whatever the sign of c. -/
theorem and_mask (c : Int) (i : Nat) (hi : i ≤ 62) : Go.bits .and .i64 c (2 ^ i - 1) = c % 2 ^ i := by
  have hp : (2 : Int) ^ i - 1 = ((2 ^ i - 1 : Nat) : Int) := by
    rw [Int.natCast_sub (Nat.two_pow_pos i)]
    simp
  have hle : 2 ^ i ≤ 2 ^ 62 := Nat.pow_le_pow_right (by decide) hi
  have hlt : 2 ^ i - 1 < 2 ^ 64 := by omega
  have hd : ((2 ^ i : Nat) : Int) ∣ ((2 ^ 64 : Nat) : Int) := Int.natCast_dvd_natCast.2 (Nat.pow_dvd_pow 2 (by omega))
  have h64 : (BitVec.ofInt 64 c).toNat = (c % 2 ^ 64).toNat := by
    rw [BitVec.toNat_ofInt, show ((2 ^ 64 : Nat) : Int) = 2 ^ 64 by decide]
  have hm : ((c % 2 ^ 64).toNat % 2 ^ i : Nat) = (c % 2 ^ i).toNat := by
    have e : (((c % 2 ^ 64).toNat % 2 ^ i : Nat) : Int) = c % 2 ^ i := by
      rw [Int.natCast_emod, Int.toNat_of_nonneg (Int.emod_nonneg _ (by decide)), Int.emod_emod_of_dvd _ (by simpa using hd)]
      simp
    omega
  rw [hp, show Go.bits .and .i64 c ((2 ^ i - 1 : Nat) : Int) = IntKind.i64.wrap ((BitVec.ofInt 64 c &&& BitVec.ofInt 64 ((2 ^ i - 1 : Nat) : Int)).toNat : Int) from rfl, BitVec.toNat_and, BitVec.ofInt_natCast, BitVec.toNat_ofNat, h64, Nat.mod_eq_of_lt hlt, Nat.and_two_pow_sub_one_eq_mod, hm]
  have h0 : 0 ≤ c % 2 ^ i := Int.emod_nonneg _ (by have := Nat.two_pow_pos i; have : (0 : Int) < 2 ^ i := by exact_mod_cast this
                                                   omega)
  have h1 : c % 2 ^ i < 2 ^ i := Int.emod_lt_of_pos _ (by exact_mod_cast Nat.two_pow_pos i)
  have h2 : (2 : Int) ^ i ≤ 2 ^ 62 := by exact_mod_cast hle
  rw [Int.toNat_of_nonneg h0, IntKind.wrap_i64]
  omega
end Go.Proofs.YtfpnoceppjjafaaDoor.Kit
