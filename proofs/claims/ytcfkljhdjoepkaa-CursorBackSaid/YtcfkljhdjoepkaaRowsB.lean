/- A slice of byte slices that came in: its cells as a plain list of lists. -/
import Derived.Test.YtcfkljhdjoepkaaPx0
import Derived.Deep.Matrix
namespace Go.Proofs.Ytcfkljhdjoepkaa.P
open Go.RowKit Go.WideShapes Go.Deep Go.Proofs.YtcfkljhdjoepkaaW.PrintWords Go.Proofs.YtcfkljhdjoepkaaW.PrintLast Go.Proofs.YtcfkljhdjoepkaaW.PrintMore
set_option linter.unusedVariables false
theorem byteRows_of {H : Type} {enc : TypeId × Value → H} {W : World} {a0 : Option Addr} {len0 cap0 fuel : Nat} {x : DataW H × List MemPlace} (hf : DataW.trod enc Try.prog W 0 (fun _ => true) true fuel 38 [.slice a0 len0 cap0] = some x) :
    ∃ l : List (List Int), l.length = len0 ∧ Kd.C (Kd.slice 5 (Kd.int .u8)) W a0 l.length l ∧ l.length ≤ cap0 ∧ ∀ b ∈ l, b.length ≤ maxLen ∧ ∀ x ∈ b, (Lit.int .u8 x).wf = true := by
  rcases open_int_rows Try.underlying38 Try.underlying22 Try.underlying5 (by kernel_rfl) (by kernel_rfl) hf with ⟨hc, hx⟩ | ⟨a, len, cap, A, L, C, Z, hc, _, hl, hm, hx, hall⟩
  · simp at hc
    obtain ⟨rfl, rfl, rfl⟩ := hc
    exact ⟨[], rfl, ⟨rfl, by simp, fun h => absurd h (by simp)⟩, Nat.le_refl _, fun x hx => by cases hx⟩
  · simp at hc
    obtain ⟨rfl, rfl, rfl⟩ := hc
    have hz : ∀ r, r < len0 → ((Z r).take (L r)).length = L r := fun r hr => by
      obtain ⟨_, h1, _, h3, _⟩ := hall r (by omega)
      rw [List.length_take]
      omega
    refine ⟨(List.range len0).map fun r => (Z r).take (L r), by simp, ⟨rfl, ?_, fun hn => ⟨a, rfl, fun j p hj => ?_⟩⟩, by simpa using hl, fun b hb => ?_⟩
    · have : len0 ≤ maxLen := Nat.le_trans hl hm
      unfold maxLen at this
      simp
      omega
    · obtain ⟨hj1, hj2⟩ := List.getElem?_eq_some_iff.1 hj
      have hj3 : j < len0 := by simpa using hj1
      have hp : p = (Z j).take (L j) := by
        rw [← hj2]
        simp
      subst hp
      obtain ⟨h0, h1, h2, h3, h4, h5, h6⟩ := hall j (by omega)
      have hzl := hz j hj3
      refine ⟨[.slice (A j) ((Z j).take (L j)).length (C j)], rfl, ⟨A j, C j, rfl, by omega, ?_⟩, fun i u hu => ?_⟩
      · refine Kd.C_of_reads (d := (0 : Int)) (h1 := fun _ => rfl) ⟨rfl, by unfold maxLen at h2; omega, fun hpos => ?_⟩
        cases hA : A j with
        | none =>
          have := h5 hA
          omega
        | some ad =>
          refine ⟨ad, rfl, fun c hc => ?_⟩
          have h7 := (h6 ad hA).2 c (by omega)
          rw [h7]
          rw [List.getD_eq_getElem?_getD, List.getD_eq_getElem?_getD, List.getElem?_take_of_lt (by omega)]
      · cases i with
        | zero =>
          injection hu with hu
          rw [← hu, hzl, show j * (Kd.slice 5 (Kd.int .u8)).sz + 0 = j from Nat.mul_one j]
          exact h0
        | succ i => simp at hu
    · obtain ⟨r, hr, rfl⟩ := List.mem_map.1 hb
      have hr' : r < len0 := by simpa using hr
      obtain ⟨h0, h1, h2, h3, h4, h5, h6⟩ := hall r (by omega)
      exact ⟨by rw [hz r hr']; omega, fun x hx => h4 x (List.mem_of_mem_take hx)⟩
end Go.Proofs.Ytcfkljhdjoepkaa.P
