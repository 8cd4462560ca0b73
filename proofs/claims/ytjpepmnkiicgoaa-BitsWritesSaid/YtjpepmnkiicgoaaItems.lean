/- A slice of items (a number and a width) that came in: its cells as a plain list. -/
import Derived.Test.YtjpepmnkiicgoaaPx0
import Derived.Deep.SlicePairs
namespace Go.Proofs.Ytjpepmnkiicgoaa.P
open Go.RowKit Go.WideShapes Go.Deep Go.Proofs.YtjpepmnkiicgoaaW.PrintWords Go.Proofs.YtjpepmnkiicgoaaW.PrintLast Go.Proofs.YtjpepmnkiicgoaaW.PrintMore
set_option linter.unusedVariables false
def intOf' : Value → Int
  | .int _ a => a
  | _ => 0
/-- Within the numbers' kinds. -/
def ItemOk (x : S34) : Prop := (0 ≤ x.f0 ∧ x.f0 < 18446744073709551616) ∧ -9223372036854775808 ≤ x.f1 ∧ x.f1 ≤ 9223372036854775807
theorem items_of {H : Type} {enc : TypeId × Value → H} {W : World} {a0 : Option Addr} {len0 cap0 fuel : Nat} {x : DataW H × List MemPlace} (hf : DataW.trod enc Try.prog W 0 (fun _ => true) true fuel 22 [.slice a0 len0 cap0] = some x) :
    ∃ l : List S34, l.length = len0 ∧ Kd.C k34 W a0 l.length l ∧ l.length ≤ cap0 ∧ ∀ x ∈ l, ItemOk x := by
  rcases open_slice_pairs Try.underlying22 Try.underlying34 (by kernel_rfl) rfl rfl (by kernel_rfl) (by kernel_rfl) hf with ⟨hc, hx⟩ | ⟨a, len, cap, m, k, V0, V1, D0, D1, P0, P1, hc, _, hl, hm, hmm, hx, hall⟩
  · simp at hc
    obtain ⟨rfl, rfl, rfl⟩ := hc
    exact ⟨[], rfl, ⟨rfl, by simp, fun h => absurd h (by simp)⟩, Nat.le_refl _, fun x hx => by cases hx⟩
  · simp at hc
    obtain ⟨rfl, rfl, rfl⟩ := hc
    have hlm : len0 ≤ m := by rw [hmm]; simp; exact hl
    have key : ∀ i, i < len0 → W.cell? (a.add (i * 2)) = some (.int .u64 (intOf' (V0 i))) ∧ W.cell? (a.add (i * 2 + 1)) = some (.int .i64 (intOf' (V1 i))) ∧ ItemOk ⟨intOf' (V0 i), intOf' (V1 i)⟩ := by
      intro i hi
      obtain ⟨c0, c1, t0, t1⟩ := hall i (by omega)
      obtain ⟨n0, e0, _, w0⟩ := DataW.trod_int Try.underlying32 t0
      obtain ⟨n1, e1, _, w1⟩ := DataW.trod_int Try.underlying3 t1
      injection e0 with e0
      injection e1 with e1
      rw [c0, c1, e0, e1]
      refine ⟨rfl, rfl, ?_, ?_⟩
      · have : 0 ≤ n0 ∧ n0 ≤ 18446744073709551615 := by simpa [Lit.wf, IntKind.min, IntKind.max, IntKind.signed, IntKind.bits] using w0
        show 0 ≤ n0 ∧ n0 < _
        omega
      · have : -9223372036854775808 ≤ n1 ∧ n1 ≤ 9223372036854775807 := by simpa [Lit.wf, IntKind.min, IntKind.max, IntKind.signed, IntKind.bits] using w1
        exact this
    refine ⟨(List.range len0).map fun i => ⟨intOf' (V0 i), intOf' (V1 i)⟩, by simp, ⟨rfl, ?_, fun hn => ⟨a, rfl, fun j p hj => ?_⟩⟩, by simpa using hl, fun x hx => ?_⟩
    · have : len0 ≤ maxLen := Nat.le_trans hl hm
      unfold maxLen at this
      simp
      omega
    · obtain ⟨hj1, hj2⟩ := List.getElem?_eq_some_iff.1 hj
      have hj3 : j < len0 := by simpa using hj1
      have hp : p = ⟨intOf' (V0 j), intOf' (V1 j)⟩ := by
        rw [← hj2]
        simp
      subst hp
      obtain ⟨c0, c1, _⟩ := key j hj3
      refine ⟨_, rfl, k34_mk W _, fun i u hu => ?_⟩
      match i, hu with
      | 0, hu =>
        injection hu with hu
        rw [← hu]
        exact c0
      | 1, hu =>
        injection hu with hu
        rw [← hu]
        exact c1
    · obtain ⟨i, hi, rfl⟩ := List.mem_map.1 hx
      exact (key i (by simpa using hi)).2.2
end Go.Proofs.Ytjpepmnkiicgoaa.P
