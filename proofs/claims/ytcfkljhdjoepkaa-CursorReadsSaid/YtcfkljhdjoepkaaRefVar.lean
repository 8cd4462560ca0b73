/- What the document's own Append and Read of varints (layer 2) come to. -/
import Derived.Test.YtcfkljhdjoepkaaVar
import Derived.Test.YtcfkljhdjoepkaaPx5
import Derived.Test.YtcfkljhdjoepkaaPx8
namespace Go.Proofs.Ytcfkljhdjoepkaa.Var
open Go.RowKit Go.Proofs.Ytcfkljhdjoepkaa.P Go.Proofs.Ytcfkljhdjoepkaa.Kit Go.Proofs.YtcfkljhdjoepkaaW.PrintWords Go.Proofs.YtcfkljhdjoepkaaW.PrintLast Go.Proofs.YtcfkljhdjoepkaaW.PrintMore
set_option linter.unusedVariables false
set_option linter.unusedSimpArgs false

theorem rAppend_loop (v : Nat) : ∀ b : List Int, v < 18446744073709551616 → b.length + (vn v).length < 140737488355328 → Evn (fun k => casketref02_Append.l0 k (v : Int) b) (b ++ vn v) := by
  induction v using Nat.strongRecOn with
  | _ v ih =>
    intro b hv hb
    have ed : IntKind.u64.wrap (Int.tdiv (v : Int) 128) = ((v / 128 : Nat) : Int) := by
      rw [k_tdiv _ _ (by omega), k64_id _ (by omega) (by omega)]
      omega
    rcases Nat.lt_or_ge v 128 with h | h
    · rw [vn_small v h] at hb ⊢
      refine Evn.succ (Evn.pure _) fun k => ?_
      simp only [casketref02_Append.l0]
      rw [ed, if_neg (by omega), if_pos (by simp at hb; omega), show (v : Int) % 256 = (v : Int) by omega]
    · rw [vn_big v h] at hb ⊢
      have h2 := ih (v / 128) (by omega) (b ++ [((v % 128 + 128 : Nat) : Int)]) (by omega) (by simp at hb ⊢; omega)
      rw [List.append_assoc, List.singleton_append] at h2
      refine Evn.succ h2 fun k => ?_
      simp only [casketref02_Append.l0]
      rw [ed, if_pos (by omega), if_pos (by simp at hb; omega), k_tmod _ _ (by omega), show ((v : Int) % 128 + 128) % 256 = ((v % 128 + 128 : Nat) : Int) by omega]
theorem rAppend_nat (b : List Int) (v : Nat) (hb : b.length + 10 < 140737488355328) (hv : v < 18446744073709551616) : Evn (fun k => casketref02_Append.f k b (v : Int)) (b ++ vn v) := by
  have := vn_len10 v hv
  unfold casketref02_Append.f
  refine Evn.bindc (a := []) rfl ?_
  refine Evn.pos (by simp; omega) ?_
  exact rAppend_loop v b hv (by omega)
theorem rAppend_ev (b : List Int) (v : Int) (hb : b.length + 10 < 140737488355328) (h0 : 0 ≤ v) (h1 : v < 18446744073709551616) : Evn (fun k => casketref02_Append.f k b v) (b ++ vn v.toNat) := by
  have := rAppend_nat b v.toNat hb (by omega)
  rwa [show ((v.toNat : Nat) : Int) = v by omega] at this
theorem rRead_loop (b : List Int) (hl : b.length < 140737488355328) (hb : Bytes b) (t : List Int) : ∀ (p : List Int) (acc : Int), b = p ++ t → p.length ≤ 9 → 0 ≤ acc → acc < 2 ^ (7 * p.length) → Evn (fun k => casketref02_Read.l0 k b acc (p.length : Int)) (vread t p.length acc) := by
  induction t with
  | nil =>
    intro p acc e _ _ _
    refine Evn.succ (Evn.pure _) fun k => ?_
    simp only [casketref02_Read.l0]
    rw [if_neg (by rw [e]; simp)]
    rfl
  | cons x t ih =>
    intro p acc e hp h0 h1
    have hx := hb x (by rw [e]; simp)
    have hr : rd b (p.length : Int) = x := by
      rw [e]
      exact rd_mid _ _ _ _ rfl
    have hlt : (p.length : Int) < (b.length : Int) := by
      rw [e]
      simp
      omega
    have hw : wrap64 ((p.length : Int) + 1) = ((p.length + 1 : Nat) : Int) := by
      unfold wrap64
      omega
    have h7 : IntKind.u64.wrap (wrap64 (7 * (p.length : Int))) = wrap64 (7 * (p.length : Int)) := by
      rw [wrap64_id (by omega) (by omega)]
      exact k64_id _ (by omega) (by omega)
    have key : ∀ fl : Bool, fl = decide (p.length = 9 ∧ 1 < x) → Evn (fun k => casketref02_Read.j1 k b acc (p.length : Int) fl) (vread (x :: t) p.length acc) := by
      intro fl hfl
      rw [vread]
      by_cases c1 : p.length = 9 ∧ 1 < x
      · rw [if_pos c1, hfl, decide_eq_true c1]
        refine Evn.succ (Evn.pure _) fun k => ?_
        simp only [casketref02_Read.j1]
        rw [if_pos trivial]
      · rw [if_neg c1, hfl, decide_eq_false c1]
        have hpos : 0 ≤ wrap64 (7 * (p.length : Int)) := by
          rw [wrap64_id (by omega) (by omega)]
          omega
        by_cases c2 : 128 ≤ x
        · obtain ⟨z1, z2, z3, z4, z5⟩ := put7 p.length acc (x - 128) hp (by omega) (by omega) (by omega) h0 h1
          rw [if_pos c2]
          have h2 := ih (p ++ [x]) (acc + (x - 128) * 2 ^ (7 * p.length)) (by rw [e]; simp) (by simp; omega) z4 (by simpa using z5)
          simp only [List.length_append, List.length_singleton] at h2
          refine Evn.succ h2 fun k => ?_
          simp only [casketref02_Read.j1]
          rw [if_neg (by simp), if_pos (by omega), if_pos hlt, h7, if_pos hpos, hr, if_neg (by omega), k_tmod _ _ hx.1, show x % 128 = x - 128 by omega, z1, k64_id _ z4 z3, hw]
        · obtain ⟨z1, z2, z3, z4, z5⟩ := put7 p.length acc x hp (by omega) (by omega) (by omega) h0 h1
          rw [if_neg c2]
          refine Evn.succ (Evn.pure _) fun k => ?_
          simp only [casketref02_Read.j1]
          rw [if_neg (by simp), if_pos (by omega), if_pos hlt, h7, if_pos hpos, hr, if_pos (by omega), k_tmod _ _ hx.1, show x % 128 = x by omega, z1, k64_id _ z4 z3, hw]
          by_cases c4 : 0 < p.length
          · rw [if_pos (by omega)]
            by_cases c3 : x = 0
            · rw [if_pos c3, if_pos ⟨c3, c4⟩]
            · rw [if_neg c3, if_neg (fun h => c3 h.1)]
          · rw [if_neg (by omega), if_neg (fun h => c4 h.2)]
    by_cases c9 : (p.length : Int) = 9
    · refine Evn.succ (key (decide (x > 1)) (by simp [show p.length = 9 by omega])) fun k => ?_
      simp only [casketref02_Read.l0]
      rw [if_pos hlt, if_pos c9, if_pos (by omega), hr]
    · refine Evn.succ (key false (by simp; omega)) fun k => ?_
      simp only [casketref02_Read.l0]
      rw [if_pos hlt, if_neg c9]
theorem rRead_ev (b : List Int) (hb : Bytes b) (hl : b.length < 140737488355328) : Evn (fun k => casketref02_Read.f k b) (vread b 0 0) := by
  unfold casketref02_Read.f
  exact rRead_loop b hl hb b [] 0 rfl (by simp) (by omega) (by simp)
end Go.Proofs.Ytcfkljhdjoepkaa.Var
