/- Readings of numbers in so many bytes: what the document's own readings come to; bytes as strings. -/
import Derived.Test.YtcfkljhdjoepkaaCurS
import Derived.Test.YtcfkljhdjoepkaaFix
import Derived.Lib.Strings
import Derived.Test.YtcfkljhdjoepkaaPx7
namespace Go.Proofs.Ytcfkljhdjoepkaa.Var
open Go.RowKit Go.Proofs.Ytcfkljhdjoepkaa.P Go.Proofs.Ytcfkljhdjoepkaa.Kit Go.Proofs.YtcfkljhdjoepkaaW.PrintWords Go.Proofs.YtcfkljhdjoepkaaW.PrintLast Go.Proofs.YtcfkljhdjoepkaaW.PrintMore
set_option linter.unusedVariables false
set_option linter.unusedSimpArgs false

theorem wrap_n (n : Nat) (h : n < 140737488355328) : wrap64 ((n : Int) + 1) = ((n + 1 : Nat) : Int) := by
  rw [wrap64_id (by omega) (by omega)]
  omega
theorem be_bd (l : List Int) (hb : Bytes l) : ∀ (v : Int) (k : Nat), 0 ≤ v → v < 256 ^ k → 0 ≤ be l v ∧ be l v < 256 ^ (k + l.length) := by
  induction l with
  | nil => intro v k h0 h1; exact ⟨h0, h1⟩
  | cons x l ih =>
    intro v k h0 h1
    have hx := hb x (by simp)
    have := ih hb.tail (v * 256 + x) (k + 1) (by omega) (by rw [Int.pow_succ]; omega)
    rw [List.length_cons, show k + (l.length + 1) = k + 1 + l.length by omega]
    exact this
theorem be8 (l : List Int) (hb : Bytes l) (hl : l.length ≤ 8) : 0 ≤ be l 0 ∧ be l 0 < 18446744073709551616 := by
  obtain ⟨a, b⟩ := be_bd l hb 0 0 (by omega) (by simp)
  rw [Nat.zero_add] at b
  have key : ∀ k : Fin 9, (256 : Int) ^ (k : Nat) ≤ 18446744073709551616 := by decide
  have := key ⟨l.length, by omega⟩
  exact ⟨a, Int.lt_of_lt_of_le b this⟩
/-! the document's readings -/
theorem rBytes_f (b : List Int) (n : Int) (hl : b.length < 140737488355328) : casketref03_Bytes.f b n = some (cBytes b n) := by
  unfold casketref03_Bytes.f cBytes
  by_cases c0 : n < 0
  · rw [if_pos c0, if_pos c0]
  · rw [if_neg c0, if_neg c0]
    by_cases c1 : (b.length : Int) < n
    · rw [if_pos c1, if_pos c1]
    · rw [if_neg c1, if_neg c1]
      simp only [Option.bind_some]
      rw [if_pos (by omega), if_pos (by omega), if_pos (by simp; omega), List.nil_append]
theorem rFixed_loop (b rest : List Int) (e : Int) (hb : Bytes b) (hl : b.length ≤ 8) (t : List Int) : ∀ (p : List Int) (v : Int), b = p ++ t → 0 ≤ v → v < 256 ^ p.length → Evn (fun k => casketref03_Fixed.l0 k b rest e v (p.length : Int)) (be t v, rest, e) := by
  induction t with
  | nil =>
    intro p v e1 _ _
    refine Evn.round ?_
    simp only [casketref03_Fixed.l0]
    exact Evn.neg (by rw [e1]; simp) (Evn.pure _)
  | cons x t ih =>
    intro p v e1 h0 h1
    have hx := hb x (by rw [e1]; simp)
    have hr : rd b (p.length : Int) = x := by
      rw [e1]
      exact rd_mid _ _ _ _ rfl
    have hpl : p.length + 1 + t.length = b.length := by rw [e1]; simp; omega
    have hp : (256 : Int) ^ p.length ≤ 72057594037927936 := by
      have key : ∀ k : Fin 8, (256 : Int) ^ (k : Nat) ≤ 72057594037927936 := by decide
      exact key ⟨p.length, by omega⟩
    have hs : (256 : Int) ^ (p.length + 1) = 256 ^ p.length * 256 := Int.pow_succ _ _
    have h2 := ih (p ++ [x]) (v * 256 + x) (by rw [e1]; simp) (by omega) (by rw [List.length_append, List.length_singleton, hs]; omega)
    rw [List.length_append, List.length_singleton] at h2
    have e0 := wrap_n p.length (by omega)
    have e3 : IntKind.u64.wrap (IntKind.u64.wrap (v * 256) + IntKind.u64.wrap x) = v * 256 + x := by rw [k64_id (v * 256) (by omega) (by omega), k64_id x (by omega) (by omega), k64_id _ (by omega) (by omega)]
    refine Evn.round ?_
    simp only [casketref03_Fixed.l0, e0, hr, e3]
    clear e0 e3
    exact Evn.pos (by omega) (Evn.pos (by omega) h2)
/-- What is read of n bytes. -/
def fixedP (n : Nat) (b : List Int) : Int × List Int × Int := if b.length < n then (0, b, 2) else (be (b.take n) 0, b.drop n, 0)
theorem rFixed_ev (n : Nat) (hn : n ≤ 8) (b : List Int) (hb : Bytes b) (hl : b.length < 140737488355328) : Evn (fun k => casketref03_Fixed.f k b (n : Int)) (fixedP n b) := by
  unfold casketref03_Fixed.f
  refine Evn.neg (by omega) (Evn.round ?_)
  simp only [casketref03_Fixed.j0]
  refine Evn.neg (by simp; omega) (Evn.bindc (rBytes_f b n hl) ?_)
  unfold cBytes fixedP
  rw [if_neg (by omega), Int.toNat_natCast]
  by_cases c : b.length < n
  · rw [if_pos c, if_pos (by omega)]
    exact rFixed_loop [] b 2 Bytes.nil (by simp) [] [] 0 rfl (by omega) (by simp)
  · rw [if_neg c, if_neg (by omega)]
    exact rFixed_loop (b.take n) (b.drop n) 0 (hb.take n) (by simp; omega) (b.take n) [] 0 rfl (by omega) (by simp)
theorem cFixed_eq (n : Nat) (hn : n ≤ 8) (b : List Int) : cFixed b (n : Int) = fixedP n b := by
  unfold cFixed cBytes fixedP
  rw [if_neg (by omega), if_neg (by omega), Int.toNat_natCast]
  by_cases c : b.length < n
  · rw [if_pos c, if_pos (by omega)]
    rfl
  · rw [if_neg c, if_neg (by omega)]
/-- The number that was written so. -/
theorem be_fixB (v : Int) (n : Nat) : ∀ a : Int, be (fixB n v) a = a * 256 ^ n + v % 256 ^ n := by
  induction n with
  | zero => intro a; simp [fixB, be]
  | succ n ih =>
    intro a
    rw [fixB]
    show be (fixB n v) (a * 256 + v / 2 ^ (8 * n) % 256) = _
    rw [ih]
    have hp : (0 : Int) < 256 ^ n := Int.pow_pos (by decide)
    have e1 : (2 : Int) ^ (8 * n) = 256 ^ n := by rw [Int.pow_mul]; rfl
    have e2 : v % 256 ^ (n + 1) = v / 256 ^ n % 256 * 256 ^ n + v % 256 ^ n := by
      rw [Int.pow_succ, Int.emod_def v (256 ^ n * 256), Int.emod_def (v / 256 ^ n) 256, Int.emod_def v (256 ^ n), ← Int.ediv_ediv_of_nonneg (by omega), Int.sub_mul, show 256 ^ n * 256 * (v / 256 ^ n / 256) = 256 * (v / 256 ^ n / 256) * 256 ^ n by ac_rfl, Int.mul_comm (v / 256 ^ n) (256 ^ n)]
      omega
    rw [e1, e2, Int.add_mul, Int.pow_succ, Int.mul_assoc, Int.mul_comm 256 (256 ^ n)]
    omega
theorem map_byte (a : List Int) : ∀ b : List Int, Bytes a → Bytes b → (a.map fun n => UInt8.ofNat n.toNat) = (b.map fun n => UInt8.ofNat n.toNat) → a = b := by
  induction a with
  | nil =>
    intro b _ _ h
    cases b with
    | nil => rfl
    | cons y b => simp at h
  | cons x a ih =>
    intro b ha hb h
    cases b with
    | nil => simp at h
    | cons y b =>
      rw [List.map_cons, List.map_cons] at h
      injection h with h1 h2
      have hx := ha x (by simp)
      have hy := hb y (by simp)
      have h3 := congrArg UInt8.toNat h1
      rw [UInt8.toNat_ofNat', UInt8.toNat_ofNat'] at h3
      rw [ih b ha.tail hb.tail h2, show x = y by omega]
theorem str_same (a b : List Int) (ha : Bytes a) (hb : Bytes b) : ((strOfNums a).toList == (strOfNums b).toList) = decide (a = b) := by
  rw [Lib.toList_data, Lib.toList_data, strOfNums_data, strOfNums_data]
  by_cases c : a = b
  · rw [c]
    simp
  · rw [decide_eq_false c]
    refine beq_eq_false_iff_ne.2 fun h => c (map_byte a b ha hb h)
end Go.Proofs.Ytcfkljhdjoepkaa.Var
