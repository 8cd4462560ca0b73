/- The cursor's Fixed and Block: contracts. -/
import Derived.Test.YtkpghfklhipcnaaPx3
import Derived.Test.YtkpghfklhipcnaaPx5
import Derived.Test.YtkpghfklhipcnaaCurM
import Derived.Test.YtkpghfklhipcnaaBits
import Derived.OneCell
import Derived.RegionTactic
import Derived.BigRegion
import Derived.Outline
import Derived.Deep.QuietTactic
import Derived.BigQuiet
namespace Go.Proofs.Ytkpghfklhipcnaa.P
open Go.RowKit Go.Proofs.Ytkpghfklhipcnaa.Kit Go.Proofs.Ytkpghfklhipcnaa.Var Go.Proofs.YtkpghfklhipcnaaW.PrintWords Go.Proofs.YtkpghfklhipcnaaW.PrintLast Go.Proofs.YtkpghfklhipcnaaW.PrintMore
attribute [local go_sem] max2_int min2_int max_two min_two max_three min_three max_four min_four
set_option linter.unusedVariables false
set_option linter.unusedSimpArgs false

theorem be_step (v x : Int) (t : List Int) (k : Nat) (hk : k + 1 + t.length ≤ 8) (h0 : 0 ≤ v) (h1 : v < 256 ^ k) (hx : 0 ≤ x ∧ x < 256) : Go.bits .or .u64 (IntKind.u64.wrap (v * 256)) (IntKind.u64.wrap x) = v * 256 + x ∧ 0 ≤ v * 256 + x ∧ v * 256 + x < 256 ^ (k + 1) := by
  have hp : (256 : Int) ^ k ≤ 72057594037927936 := by
    have key : ∀ k : Fin 8, (256 : Int) ^ (k : Nat) ≤ 72057594037927936 := by decide
    exact key ⟨k, by omega⟩
  have h2 : v < 72057594037927936 := by omega
  rw [k64_id (v * 256) (by omega) (by omega), k64_id x hx.1 (by omega), Int.pow_succ]
  refine ⟨?_, by omega, by omega⟩
  exact k64_or_add' 8 x (v * 256) hx.1 (by omega) (by omega) (by omega) (by omega) (by omega)
theorem cBytes_bytes (b : List Int) (n : Int) (hb : Bytes b) : Bytes (cBytes b n).1 ∧ Bytes (cBytes b n).2.1 := by
  unfold cBytes
  split
  · exact ⟨Bytes.nil, hb⟩
  · split
    · exact ⟨Bytes.nil, hb⟩
    · exact ⟨hb.take _, hb.drop _⟩
theorem cBytes_len (b : List Int) (n : Int) : ((cBytes b n).1.length : Int) ≤ n ∨ (cBytes b n).1.length = 0 := by
  unfold cBytes
  split
  · right; rfl
  · split
    · right; rfl
    · left
      simp only [List.length_take]
      omega
theorem Byte_none (W : World) : Calls Try.prog 27 #[.pointer none] W fun e W' => e = .returned (.tuple #[.int .u8 0, .int .i64 1]) ∧ Drawn0 W W' := by
  go_enter Try.func27, Try.ntmps27
  go_wp2_with (go_at_call 29; refine (Bytes_none 1 _).mono ?_; rintro e w1 ⟨rfl, hd⟩; have HD := Aside0.mk hd; clear hd)
  go_ret2
  exact ⟨rfl, HD.out⟩
theorem block_facts (l m u : Nat) (h1 : m ≤ l) (hb : l < 140737488355328) : wrap64 ((l : Int) - (m : Int)) = ((l - m : Nat) : Int) ∧ IntKind.u64.wrap ((l - m : Nat) : Int) = ((l - m : Nat) : Int) ∧ (¬ ((l : Int) - (m : Int) < (u : Int)) → IntKind.i64.wrap (u : Int) = (u : Int)) := by
  obtain ⟨d, hd⟩ : ∃ d : Nat, d = l - m := ⟨_, rfl⟩
  have hdl : d ≤ l := by omega
  have e : (l : Int) - (m : Int) = (d : Int) := by omega
  rw [← hd, e]
  have p0 : (0 : Int) ≤ (d : Int) := by omega
  have p1 : (d : Int) < 140737488355328 := by omega
  clear hd e hdl h1
  refine ⟨wrap64_id (by omega) (by omega), k64_id _ p0 (by omega), fun h => ?_⟩
  have q1 : (u : Int) < 140737488355328 := by omega
  exact (i64_w _).trans (wrap64_id (by omega) (by omega))
end Go.Proofs.Ytkpghfklhipcnaa.P
