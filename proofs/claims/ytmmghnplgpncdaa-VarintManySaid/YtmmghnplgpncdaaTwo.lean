/- Layer 2: what Size, Zig, Zag and the document's own come to. -/
import Derived.Test.YtmmghnplgpncdaaRefVar
import Derived.Test.YtmmghnplgpncdaaPx1
import Derived.Test.YtmmghnplgpncdaaPx2
namespace Go.Proofs.Ytmmghnplgpncdaa.Two
open Go.RowKit Go.Proofs.Ytmmghnplgpncdaa.P Go.Proofs.Ytmmghnplgpncdaa.Kit Go.Proofs.Ytmmghnplgpncdaa.Var Go.Proofs.YtmmghnplgpncdaaW.PrintWords Go.Proofs.YtmmghnplgpncdaaW.PrintLast Go.Proofs.YtmmghnplgpncdaaW.PrintMore
set_option linter.unusedVariables false
set_option linter.unusedSimpArgs false

theorem Size_loop (v : Nat) : ∀ n : Nat, n + (vn v).length < 140737488355328 → Evn (fun k => varint_Size.l0 k (v : Int) (n : Int)) ((n + (vn v).length - 1 : Nat) : Int) := by
  induction v using Nat.strongRecOn with
  | _ v ih =>
    intro n hn
    rcases Nat.lt_or_ge v 128 with h | h
    · rw [vn_small v h]
      refine Evn.succ ((Evn.pure _).eq (r' := ((n + 1 - 1 : Nat) : Int)) rfl) fun k => ?_
      simp only [varint_Size.l0]
      rw [if_neg (by omega)]
      simp
    · rw [vn_big v h, List.length_cons] at hn
      have h2 := ih (v / 128) (by omega) (n + 1) (by omega)
      rw [vn_big v h, List.length_cons, show n + ((vn (v / 128)).length + 1) - 1 = n + 1 + (vn (v / 128)).length - 1 by omega]
      refine Evn.succ h2 fun k => ?_
      simp only [varint_Size.l0]
      rw [if_pos (by omega), show (v : Int) / 128 = ((v / 128 : Nat) : Int) by omega, show wrap64 ((n : Int) + 1) = ((n + 1 : Nat) : Int) by unfold wrap64; omega]
theorem Size_ev (v : Int) (h0 : 0 ≤ v) (h1 : v < 18446744073709551616) : Evn (fun k => varint_Size.f k v) ((vn v.toNat).length : Int) := by
  have h10 := vn_len10 v.toNat (by omega)
  have hp := vn_pos v.toNat
  have := Size_loop v.toNat 1 (by omega)
  rw [show ((v.toNat : Nat) : Int) = v by omega, show 1 + (vn v.toNat).length - 1 = (vn v.toNat).length by omega] at this
  exact this
theorem rSize_ev (v : Int) (h0 : 0 ≤ v) (h1 : v < 18446744073709551616) : Evn (fun k => casketref02_Size.f k v) ((vn v.toNat).length : Int) := by
  unfold casketref02_Size.f
  refine Evn.bind (rAppend_ev [] v (by simp) h0 h1) ?_
  exact Evn.pure _
/-- A number with a sign as one without. -/
def zig (n : Int) : Int := if 0 ≤ n then 2 * n else -2 * n - 1
def zag (v : Int) : Int := if v % 2 = 0 then v / 2 else -(v / 2) - 1
theorem Zig_f (n : Int) (h : -9223372036854775808 ≤ n ∧ n ≤ 9223372036854775807) : varint_Zig.f n = some (zig n) := by
  unfold varint_Zig.f zig
  simp only [wrapu64]
  by_cases c : 0 ≤ n
  · rw [if_pos c, show n / 9223372036854775808 % 18446744073709551616 = 0 by omega, show n % 18446744073709551616 * 2 % 18446744073709551616 = 2 * n by omega, k64_xor0 _ (by omega) (by omega)]
  · rw [if_neg c, show n / 9223372036854775808 % 18446744073709551616 = 18446744073709551615 by omega, show n % 18446744073709551616 * 2 % 18446744073709551616 = 2 * n + 18446744073709551616 by omega, k64_xor_ones _ (by omega) (by omega)]
    congr 1
    omega
theorem rZig_f (n : Int) (h : -9223372036854775808 ≤ n ∧ n ≤ 9223372036854775807) : casketref02_Zig.f n = some (zig n) := by
  unfold casketref02_Zig.f zig
  simp only [wrapu64]
  by_cases c : 0 ≤ n
  · rw [if_pos c, if_pos c]
    congr 1
    omega
  · rw [if_neg c, if_neg c, show wrap64 (-(wrap64 (n + 1))) = -n - 1 by unfold wrap64; omega]
    congr 1
    omega
theorem Zag_f (v : Int) (h0 : 0 ≤ v) (h1 : v < 18446744073709551616) : varint_Zag.f v = some (zag v) := by
  unfold varint_Zag.f zag
  rw [k64_and1 v h0 h1, show wrap64 (v / 2) = v / 2 by unfold wrap64; omega]
  by_cases c : v % 2 = 0
  · rw [if_pos c, c, show wrap64 (-(wrap64 0)) = 0 by decide +kernel, ki64_xor0 _ (by omega) (by omega)]
  · rw [if_neg c, show v % 2 = 1 by omega, show wrap64 (-(wrap64 1)) = -1 by decide +kernel, ki64_xor_ones _ (by omega) (by omega)]
theorem rZag_f (v : Int) (h0 : 0 ≤ v) (h1 : v < 18446744073709551616) : casketref02_Zag.f v = some (zag v) := by
  unfold casketref02_Zag.f zag
  rw [k_tmod _ _ h0, k_tdiv _ _ h0, k64_id (v / 2) (by omega) (by omega)]
  by_cases c : v % 2 = 0
  · rw [if_pos c, if_pos c]
    congr 1
    unfold wrap64
    omega
  · rw [if_neg c, if_neg c]
    congr 1
    unfold wrap64
    omega
theorem zig_bd (n : Int) (h : -9223372036854775808 ≤ n ∧ n ≤ 9223372036854775807) : 0 ≤ zig n ∧ zig n < 18446744073709551616 := by
  unfold zig
  split <;> omega
theorem zag_bd (v : Int) (h0 : 0 ≤ v) (h1 : v < 18446744073709551616) : -9223372036854775808 ≤ zag v ∧ zag v ≤ 9223372036854775807 := by
  unfold zag
  split <;> omega
theorem zag_zig (n : Int) : zag (zig n) = n := by
  unfold zig zag
  split <;> split <;> omega
theorem zig_zag (v : Int) (h0 : 0 ≤ v) : zig (zag v) = v := by
  unfold zig zag
  split <;> split <;> omega
theorem awake_ev : Evn casketlaw02_awake.f true := Evn.of casketlaw02_awake.mono 30 (by decide +kernel)
end Go.Proofs.Ytmmghnplgpncdaa.Two
