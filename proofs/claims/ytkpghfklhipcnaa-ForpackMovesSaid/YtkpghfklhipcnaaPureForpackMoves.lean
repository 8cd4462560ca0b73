/- For all lists of up to 400 numbers and every addend that does not overflow: the packed bytes behind the varint are the same. No condition. -/
import Derived.Test.YtkpghfklhipcnaaFor
import Derived.Test.YtkpghfklhipcnaaPx12
import Derived.Test.YtkpghfklhipcnaaPx6
namespace Go.Proofs.Ytkpghfklhipcnaa.Pure
open Go.RowKit Go.Proofs.Ytkpghfklhipcnaa.P Go.Proofs.Ytkpghfklhipcnaa.Kit Go.Proofs.Ytkpghfklhipcnaa.Var Go.Proofs.Ytkpghfklhipcnaa.ForP Go.Proofs.YtkpghfklhipcnaaW.PrintWords Go.Proofs.YtkpghfklhipcnaaW.PrintLast Go.Proofs.YtkpghfklhipcnaaW.PrintMore
set_option linter.unusedVariables false
set_option linter.unusedSimpArgs false

def mvL (c : Int) (l : List Int) : List Int := l.map (fun x => x + c)
theorem rd_mv (l : List Int) (c : Int) (i : Nat) (hi : i < l.length) : rd (mvL c l) (i : Int) = rd l (i : Int) + c := by
  rw [rd_nat, rd_nat, mvL, List.getD_eq_getElem?_getD, List.getD_eq_getElem?_getD, List.getElem?_map, List.getElem?_eq_getElem hi]
  rfl
theorem stE_step (l : List Int) (k : Nat) : stE l (k + 1) = (if rd l (k : Int) < (if k = 0 then (rd l (k : Int), rd l (k : Int)) else stE l k).1 then rd l (k : Int) else (if k = 0 then (rd l (k : Int), rd l (k : Int)) else stE l k).1, if (if k = 0 then (rd l (k : Int), rd l (k : Int)) else stE l k).2 < rd l (k : Int) then rd l (k : Int) else (if k = 0 then (rd l (k : Int), rd l (k : Int)) else stE l k).2) := rfl
theorem stE_mv (l : List Int) (c : Int) : ∀ k, 0 < k → k ≤ l.length → stE (mvL c l) k = ((stE l k).1 + c, (stE l k).2 + c)
  | 0, h, _ => by omega
  | k + 1, _, hk => by
    rw [stE_step, stE_step, rd_mv l c k (by omega)]
    by_cases h0 : k = 0
    · simp only [if_pos h0, Int.lt_irrefl, if_false]
    · simp only [if_neg h0]
      rw [stE_mv l c k (by omega) (by omega)]
      simp only [Int.add_lt_add_iff_right]
      refine Prod.ext ?_ ?_
      · dsimp only
        split <;> rfl
      · dsimp only
        split <;> rfl
theorem mv_len (l : List Int) (c : Int) : (mvL c l).length = l.length := List.length_map _
theorem mn_mv (l : List Int) (c : Int) (h : 0 < l.length) : mnL (mvL c l) = mnL l + c := by
  unfold mnL
  rw [mv_len, stE_mv l c _ h (Nat.le_refl _)]
theorem mx_mv (l : List Int) (c : Int) (h : 0 < l.length) : mxL (mvL c l) = mxL l + c := by
  unfold mxL
  rw [mv_len, stE_mv l c _ h (Nat.le_refl _)]
theorem w_mv (l : List Int) (c : Int) (h : 0 < l.length) : wL (mvL c l) = wL l := by
  unfold wL
  rw [mn_mv l c h, mx_mv l c h, show mxL l + c - (mnL l + c) = mxL l - mnL l by omega]
theorem flat_mv (m : Int) (w : Nat) (c : Int) : ∀ l : List Int, flatB (m + c) w (mvL c l) = flatB m w l
  | [] => rfl
  | v :: l => by
    rw [mvL, List.map_cons, flatB_cons, flatB_cons, show v + c - (m + c) = v - m by omega]
    exact congrArg _ (flat_mv m w c l)
/-- The program's own least and greatest so far. -/
def stL (l : List Int) (i : Nat) : Int × Int := if i = 0 then (rd l 0, rd l 0) else stE l i
theorem stL_succ (l : List Int) (i : Nat) : stL l (i + 1) = (mn (stL l i).1 (rd l (i : Int)), mx (stL l i).2 (rd l (i : Int))) := by
  unfold stL mn mx
  rw [if_neg (by omega), stE_step]
  by_cases h0 : i = 0
  · subst h0
    rfl
  · simp only [if_neg h0]
theorem moves_end {l a b : List Int} {n : Nat} (hu : U64 l) (h0 : 0 < l.length) (h4 : l.length ≤ 400) (hn : n = (l.length * wL l + 7) / 8) (ha : ∃ p, a = p ++ (wL l : Int) :: pack (flatB (mnL l) (wL l) l) ∧ p.length ≤ 12) (hb : ∃ p, b = p ++ (wL l : Int) :: pack (flatB (mnL l) (wL l) l) ∧ p.length ≤ 12) (d : Nat) : ∀ i : Nat, i + d = l.length → Evn (fun k => casketlaw05_ForpackMoves.l1 k l true a b (stL l i).1 (stL l i).2 (i : Int)) true := by
  induction d with
  | zero =>
    intro i hi
    obtain rfl : i = l.length := by omega
    have hw := wL_le hu
    have hbd := bd_of hu
    have hm : l.length * wL l ≤ 400 * 64 := Nat.mul_le_mul h4 hw
    have hmi : (l.length : Int) * (wL l : Int) = ((l.length * wL l : Nat) : Int) := (Int.natCast_mul _ _).symm
    have e1 : (stL l l.length).1 = mnL l := by unfold stL mnL; rw [if_neg (by omega)]
    have e2 : (stL l l.length).2 = mxL l := by unfold stL mxL; rw [if_neg (by omega)]
    have hN : wrap64 (1 + wrap64 (Int.tdiv (wrap64 (wrap64 ((l.length : Int) * (wL l : Int)) + 7)) 8)) = ((n + 1 : Nat) : Int) := by
      rw [hmi, wrap64_id (n := ((l.length * wL l : Nat) : Int)) (by omega) (by omega), wrap64_id (n := ((l.length * wL l : Nat) : Int) + 7) (by omega) (by omega), Int.tdiv_eq_ediv_of_nonneg (by omega), wrap64_id (n := (((l.length * wL l : Nat) : Int) + 7) / 8) (by omega) (by omega), wrap64_id (by omega) (by omega)]
      omega
    have hpl : (pack (flatB (mnL l) (wL l) l)).length = n := by rw [pack_length, flatB_length, hn]
    obtain ⟨p, rfl, hp⟩ := ha
    obtain ⟨q, rfl, hq⟩ := hb
    have la : (p ++ (wL l : Int) :: pack (flatB (mnL l) (wL l) l)).length = p.length + (n + 1) := by rw [List.length_append, List.length_cons, hpl]
    have lb : (q ++ (wL l : Int) :: pack (flatB (mnL l) (wL l) l)).length = q.length + (n + 1) := by rw [List.length_append, List.length_cons, hpl]
    have da : wrap64 (((p ++ (wL l : Int) :: pack (flatB (mnL l) (wL l) l)).length : Int) - ((n + 1 : Nat) : Int)) = (p.length : Int) := by
      rw [la, wrap64_id (by omega) (by omega)]
      omega
    have db : wrap64 (((q ++ (wL l : Int) :: pack (flatB (mnL l) (wL l) l)).length : Int) - ((n + 1 : Nat) : Int)) = (q.length : Int) := by
      rw [lb, wrap64_id (by omega) (by omega)]
      omega
    refine Evn.round ?_
    simp only [casketlaw05_ForpackMoves.l1]
    rw [e1, e2]
    refine Evn.neg (by omega) (Evn.bindc (a := (wL l : Int)) ?_ ?_)
    · rw [wrapu64, show (mxL l - mnL l) % 18446744073709551616 = mxL l - mnL l by omega]
      exact Width_f _ (by omega) (by omega)
    · rw [hN, da, db, Int.toNat_natCast, Int.toNat_natCast, List.drop_left, List.drop_left]
      exact Evn.pos (by trivial) (Evn.pos (by omega) (Evn.pos (by omega) (Evn.pos (by omega) (Evn.pos (by omega) (Evn.pos (by omega) (Evn.pos (by omega) (Evn.bind (Same1_self _ (by rw [List.length_cons, hpl]; omega)) (Evn.pure _))))))))
  | succ d ih =>
    intro i hi
    refine Evn.round ?_
    simp only [casketlaw05_ForpackMoves.l1]
    rw [wrap_s i (by omega)]
    have := ih (i + 1) (by omega)
    rw [stL_succ] at this
    exact Evn.pos (by omega) (Evn.pos (by omega) this)
theorem moves_loop {l : List Int} {c : Int} (hu : U64 l) (h0 : 0 < l.length) (h4 : l.length ≤ 400) (hc : 0 ≤ c ∧ c < 18446744073709551616) (t : List Int) : ∀ p : List Int, l = p ++ t → (∀ x ∈ p, x + c < 18446744073709551616) → Evn (fun k => casketlaw05_ForpackMoves.l0 k l c true (mvL c p) (p.length : Int)) true := by
  induction t with
  | nil =>
    intro p hp hx
    rw [List.append_nil] at hp
    subst hp
    have hu2 : U64 (mvL c l) := fun y hy => by
      obtain ⟨x, hx1, rfl⟩ := List.mem_map.1 hy
      have := hu x hx1
      exact ⟨by omega, hx x hx1⟩
    have hb := bd_of hu
    have hb2 := bd_of hu2
    have hp1 : packF l = (packB l, 0) := by
      unfold packF
      rw [if_neg (by omega)]
    have hp2 : packF (mvL c l) = (packB (mvL c l), 0) := by
      unfold packF
      rw [mv_len, if_neg (by omega)]
    refine Evn.round ?_
    simp only [casketlaw05_ForpackMoves.l0]
    refine Evn.neg (by omega) (Evn.bind (Pack_ev hu (by omega)) (Evn.bind (Pack_ev hu2 (by rw [mv_len]; omega)) ?_))
    rw [hp1, hp2]
    refine Evn.pos rfl (Evn.round ?_)
    simp only [casketlaw05_ForpackMoves.j2]
    have := moves_end (a := packB l) (b := packB (mvL c l)) hu h0 h4 rfl ⟨vn (mnL l).toNat, rfl, Nat.le_trans (vn_len10 _ (by omega)) (by decide)⟩ ⟨vn (mnL (mvL c l)).toNat, by rw [packB, w_mv l c h0, mn_mv l c h0, flat_mv], Nat.le_trans (vn_len10 _ (by omega)) (by decide)⟩ l.length 0 (by omega)
    exact Evn.neg (by decide) (Evn.pos (by omega) this)
  | cons x t ih =>
    intro p hp hx
    have hl : l.length = p.length + (t.length + 1) := by rw [hp, List.length_append, List.length_cons]
    have hr : rd l (p.length : Int) = x := by
      rw [hp]
      exact rd_mid p x t _ rfl
    have hx0 := hu x (by rw [hp]; simp)
    refine Evn.round ?_
    simp only [casketlaw05_ForpackMoves.l0, hr, wrapu64]
    refine Evn.pos (by omega) (Evn.pos (by omega) ?_)
    by_cases c1 : x > (18446744073709551615 - c) % 18446744073709551616
    · exact Evn.pos c1 (Evn.pure _)
    · refine Evn.neg c1 (Evn.pos (by rw [mv_len]; omega) ?_)
      have h1 := ih (p ++ [x]) (by rw [hp, List.append_assoc]; rfl) (fun y hy => by
        rcases List.mem_append.1 hy with h | h
        · exact hx y h
        · rw [List.mem_singleton] at h
          omega)
      rw [List.length_append, List.length_singleton] at h1
      rw [wrap_s _ (by omega), show (x + c) % 18446744073709551616 = x + c by omega]
      have e : mvL c p ++ [x + c] = mvL c (p ++ [x]) := by simp [mvL]
      rw [e]
      exact h1
theorem ForpackMoves : casketlaw05_ForpackMoves.Pure := by
  intro l c hm h8 hl h1
  have hu := u64_of hl
  have hc := wfu64 h1
  refine Evn.get (g := fun k => casketlaw05_ForpackMoves.f k l c) ?_
  unfold casketlaw05_ForpackMoves.f
  refine Evn.bind awake_ev ?_
  by_cases c0 : (l.length : Int) = 0
  · refine Evn.pos c0 (Evn.round ?_)
    simp only [casketlaw05_ForpackMoves.j0]
    exact Evn.pos (by trivial) (Evn.pure _)
  · refine Evn.neg c0 (Evn.round ?_)
    simp only [casketlaw05_ForpackMoves.j0]
    by_cases c1 : (l.length : Int) > 400
    · rw [decide_eq_true c1]
      exact Evn.pos (by trivial) (Evn.pure _)
    · rw [decide_eq_false c1]
      exact Evn.neg (by decide) (moves_loop hu (by omega) (by omega) hc l [] rfl (fun y hy => by cases hy))
end Go.Proofs.Ytkpghfklhipcnaa.Pure
