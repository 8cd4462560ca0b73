/- For every number and every count (1 to 1024 of it): as many of one number take its varint and one byte. No condition. -/
import Derived.Test.YtkpghfklhipcnaaFor
import Derived.Test.YtkpghfklhipcnaaPx12
import Derived.Test.YtkpghfklhipcnaaPx6
namespace Go.Proofs.Ytkpghfklhipcnaa.Pure
open Go.RowKit Go.Proofs.Ytkpghfklhipcnaa.P Go.Proofs.Ytkpghfklhipcnaa.Kit Go.Proofs.Ytkpghfklhipcnaa.Var Go.Proofs.Ytkpghfklhipcnaa.ForP Go.Proofs.YtkpghfklhipcnaaW.PrintWords Go.Proofs.YtkpghfklhipcnaaW.PrintLast Go.Proofs.YtkpghfklhipcnaaW.PrintMore
set_option linter.unusedVariables false
set_option linter.unusedSimpArgs false

theorem mask10 (a : Int) : Go.bits .and .i64 a 1023 = ((a % 1024).toNat : Int) := by
  have h := and_mask a 10 (by omega)
  rw [show (2 : Int) ^ 10 = 1024 by decide] at h
  rw [show (1023 : Int) = 1024 - 1 by decide, h]
  omega
theorem stE_rep (v : Int) (n : Nat) : ∀ k, k < n → stE (List.replicate n v) (k + 1) = (v, v)
  | 0, h => by
    have hr : rd (List.replicate n v) ((0 : Nat) : Int) = v := by rw [rd_nat]; simp [List.getD_eq_getElem?_getD, List.getElem?_replicate, h]
    rw [stE, hr]
    simp
  | k + 1, h => by
    have hr : rd (List.replicate n v) ((k + 1 : Nat) : Int) = v := by rw [rd_nat]; simp [List.getD_eq_getElem?_getD, List.getElem?_replicate, h]
    rw [stE, hr, stE_rep v n k (by omega)]
    simp
theorem flatB_0 (m : Int) : ∀ l : List Int, flatB m 0 l = []
  | [] => rfl
  | v :: l => by rw [flatB_cons, flatB_0 m l]; rfl
theorem packB_rep (v : Int) (n : Nat) (hn : 0 < n) : packB (List.replicate n v) = vn v.toNat ++ [0] := by
  obtain ⟨k, rfl⟩ : ∃ k, n = k + 1 := ⟨n - 1, by omega⟩
  have h := stE_rep v (k + 1) k (by omega)
  have h1 : mnL (List.replicate (k + 1) v) = v := by unfold mnL; rw [List.length_replicate, h]
  have h2 : wL (List.replicate (k + 1) v) = 0 := by
    unfold wL mxL mnL
    rw [List.length_replicate, h]
    simp [bl_zero]
  rw [packB, h1, h2, flatB_0]
  rfl
theorem same_end {v a1 : Int} (hv : 0 ≤ v ∧ v < 18446744073709551616) {c : Nat} (hc : 0 < c) (hc2 : c ≤ 1024) (hw : wrap64 (1 + Go.bits .and .i64 a1 1023) = (c : Int)) (d : Nat) : ∀ i : Nat, i + d = c → Evn (fun k => casketlaw05_ForpackSame.l0 k v a1 true (List.replicate i v) (i : Int)) true := by
  induction d with
  | zero =>
    intro i hi
    obtain rfl : i = c := by omega
    have hU : U64 (List.replicate i v) := fun x hx => by
      rw [List.eq_of_mem_replicate hx]
      exact hv
    have hp : packF (List.replicate i v) = (vn v.toNat ++ [0], 0) := by
      unfold packF
      rw [List.length_replicate, if_neg (by omega), packB_rep v i hc]
    have hvl := vn_len10 v.toNat (by omega)
    refine Evn.round ?_
    simp only [casketlaw05_ForpackSame.l0, hw]
    refine Evn.neg (by omega) (Evn.bind (Pack_ev hU (by rw [List.length_replicate]; omega)) ?_)
    rw [hp]
    refine Evn.pos (by trivial) (Evn.pos rfl (Evn.bind (a := ((vn v.toNat).length : Int)) ?_ ?_))
    · unfold casketref02_Size.f
      exact Evn.bind ((rAppend_ev [] v (by simp) hv.1 hv.2).eq (List.nil_append _)) (Evn.pure _)
    · have e : ((vn v.toNat ++ [0]).length : Int) = (vn v.toNat).length + 1 := by simp
      rw [wrap64_id (n := ((vn v.toNat).length : Int) + 1) (by omega) (by omega)]
      simp only [e]
      rw [show wrap64 (((vn v.toNat).length : Int) + 1 - 1) = ((vn v.toNat).length : Int) by rw [wrap64_id (by omega) (by omega)]; omega]
      refine Evn.pos (by trivial) (Evn.pos (by omega) (Evn.pos (by omega) ?_))
      rw [rd_mid (vn v.toNat) 0 [] _ rfl]
      exact Evn.pure _
  | succ d ih =>
    intro i hi
    refine Evn.round ?_
    simp only [casketlaw05_ForpackSame.l0, hw]
    rw [wrap_s i (by omega)]
    refine Evn.pos (by omega) (Evn.pos (by rw [List.length_replicate]; omega) ?_)
    rw [show List.replicate i v ++ [v] = List.replicate (i + 1) v from List.replicate_succ'.symm]
    exact ih (i + 1) (by omega)
theorem ForpackSame : casketlaw05_ForpackSame.Pure := by
  intro v a1 h0 h1
  refine Evn.get (g := fun k => casketlaw05_ForpackSame.f k v a1) ?_
  unfold casketlaw05_ForpackSame.f
  refine Evn.bind awake_ev ?_
  have hc : (a1 % 1024).toNat < 1024 := by omega
  refine same_end (c := 1 + (a1 % 1024).toNat) (wfu64 h0) (by omega) (by omega) ?_ (1 + (a1 % 1024).toNat) 0 (by omega)
  rw [mask10, wrap64_id (by omega) (by omega)]
  omega
end Go.Proofs.Ytkpghfklhipcnaa.Pure
