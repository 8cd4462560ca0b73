/- For every number and all lists of byte lists: what Fix and Block wrote is read again, and then nothing is left. No condition. -/
import Derived.Test.YtcfkljhdjoepkaaCurL
import Derived.Test.YtcfkljhdjoepkaaRefCur
import Derived.Test.YtcfkljhdjoepkaaPx5
namespace Go.Proofs.Ytcfkljhdjoepkaa.Pure
open Go.RowKit Go.Proofs.Ytcfkljhdjoepkaa.P Go.Proofs.Ytcfkljhdjoepkaa.Kit Go.Proofs.Ytcfkljhdjoepkaa.Var Go.Proofs.Ytcfkljhdjoepkaa.CurL Go.Proofs.YtcfkljhdjoepkaaW.PrintWords Go.Proofs.YtcfkljhdjoepkaaW.PrintLast Go.Proofs.YtcfkljhdjoepkaaW.PrintMore
set_option linter.unusedVariables false
set_option linter.unusedSimpArgs false

def blocksB (l : List (List Int)) : List Int := l.flatMap fun b => vn b.length ++ b
theorem blocksB_snoc (p : List (List Int)) (b : List Int) : blocksB (p ++ [b]) = blocksB p ++ (vn b.length ++ b) := by simp [blocksB]
theorem blocksB_cons (b : List Int) (t : List (List Int)) : blocksB (b :: t) = vn b.length ++ (b ++ blocksB t) := by simp [blocksB]
theorem blocksB_len (p : List (List Int)) (h : ∀ b ∈ p, b.length ≤ 300) : (blocksB p).length ≤ 310 * p.length := by
  induction p with
  | nil => simp [blocksB]
  | cons b t ih =>
    have h1 := h b List.mem_cons_self
    have h2 := ih (fun c hc => h c (List.mem_cons_of_mem _ hc))
    have h3 := vn_len10 b.length (by omega)
    rw [blocksB_cons, List.length_append, List.length_append, List.length_cons]
    omega
theorem blocksB_by (p : List (List Int)) (h : ∀ b ∈ p, Bytes b) : Bytes (blocksB p) := by
  intro x hx
  obtain ⟨b, hb, hx⟩ := List.mem_flatMap.1 hx
  rcases List.mem_append.1 hx with h1 | h1
  · exact vn_byte _ x h1
  · exact h b hb x h1
theorem rdL_mid (p : List (List Int)) (b : List Int) (t : List (List Int)) : rd_L1 (p ++ b :: t) (p.length : Int) = b := by
  simp [rd_L1, List.getD_eq_getElem?_getD]
theorem back_read {l : List (List Int)} (hl : l.length ≤ 30) (hs : ∀ b ∈ l, b.length ≤ 300) (hb : ∀ b ∈ l, Bytes b) (t : List (List Int)) : ∀ p : List (List Int), l = p ++ t → Evn (fun k => casketlaw03_CursorBack.l1 k l true (p.length : Int) (blocksB t)) true := by
  induction t with
  | nil =>
    intro p hp
    rw [List.append_nil] at hp
    subst hp
    refine Evn.round ?_
    simp only [casketlaw03_CursorBack.l1]
    exact Evn.neg (by omega) (Evn.pos (by trivial) (Evn.bindc (End_f _ (by decide)) (Evn.pure _)))
  | cons b t ih =>
    intro p hp
    have hll : l.length = p.length + (t.length + 1) := by rw [hp, List.length_append, List.length_cons]
    have hr : rd_L1 l (p.length : Int) = b := by rw [hp]; exact rdL_mid p b t
    have hbm : b ∈ l := by rw [hp]; simp
    have htm : ∀ c ∈ t, c ∈ l := fun c hc => by rw [hp]; simp [hc]
    have h1 := ih (p ++ [b]) (by rw [hp, List.append_assoc]; rfl)
    rw [List.length_append, List.length_singleton] at h1
    have hbl := hs b hbm
    have htl := blocksB_len t (fun c hc => hs c (htm c hc))
    have hg : cgood (blocksB (b :: t)) := ⟨blocksB_by _ (fun c hc => hb c (by
      rcases List.mem_cons.1 hc with rfl | h2
      · exact hbm
      · exact htm c h2)), by
        have := blocksB_len (b :: t) (fun c hc => hs c (by
          rcases List.mem_cons.1 hc with rfl | h2
          · exact hbm
          · exact htm c h2))
        rw [List.length_cons] at this
        omega⟩
    have hbk := cBlock_back b (blocksB t) (b.length : Int) (by omega) (Int.le_refl _)
    refine Evn.round ?_
    simp only [casketlaw03_CursorBack.l1, hr]
    rw [wrap_n _ (by omega)]
    refine Evn.pos (by omega) (Evn.pos (by omega) (Evn.bindc (Block_f _ _ hg (by omega)) ?_))
    rw [blocksB_cons, hbk]
    have h2 := same_ev b b (by omega)
    rw [decide_eq_true rfl] at h2
    exact Evn.pos rfl (Evn.bind h2 (Evn.pos (by trivial) h1))
theorem back_write {l : List (List Int)} {v : Int} (hv : 0 ≤ v ∧ v < 18446744073709551616) (hl : l.length ≤ 30) (hb : ∀ b ∈ l, Bytes b) (t : List (List Int)) : ∀ p : List (List Int), l = p ++ t → (∀ b ∈ p, b.length ≤ 300) → Evn (fun k => casketlaw03_CursorBack.l0 k v l true (fixB 8 v ++ blocksB p) (p.length : Int)) true := by
  induction t with
  | nil =>
    intro p hp hs
    rw [List.append_nil] at hp
    subst hp
    have hlen := blocksB_len l hs
    have hg : cgood (fixB 8 v ++ blocksB l) := ⟨Bytes.append (fixB_bytes v 8) (blocksB_by l hb), by rw [List.length_append, fixB_length]; omega⟩
    have hF : cFixed (fixB 8 v ++ blocksB l) 8 = (v, blocksB l, 0) := by
      rw [show (8 : Int) = ((8 : Nat) : Int) from rfl, cFixed_eq 8 (by decide)]
      unfold fixedP
      rw [if_neg (by rw [List.length_append, fixB_length]; omega), List.take_left' (fixB_length v 8), List.drop_left' (fixB_length v 8), be_fixB, show (256 : Int) ^ 8 = 18446744073709551616 by decide]
      rw [show (0 : Int) * 18446744073709551616 + v % 18446744073709551616 = v by omega]
    refine Evn.round ?_
    simp only [casketlaw03_CursorBack.l0]
    refine Evn.neg (by omega) (Evn.bindc (New_f _ hg) (Evn.bindc (Fixed_f _ _ hg) ?_))
    rw [hF]
    refine Evn.pos rfl (Evn.round ?_)
    simp only [casketlaw03_CursorBack.j1]
    refine Evn.neg (by simp) ?_
    exact back_read hl hs hb l [] rfl
  | cons b t ih =>
    intro p hp hs
    have hll : l.length = p.length + (t.length + 1) := by rw [hp, List.length_append, List.length_cons]
    have hr : rd_L1 l (p.length : Int) = b := by rw [hp]; exact rdL_mid p b t
    have hlen := blocksB_len p hs
    refine Evn.round ?_
    simp only [casketlaw03_CursorBack.l0, hr]
    refine Evn.pos (by omega) (Evn.pos (by omega) ?_)
    by_cases c : (b.length : Int) > 300
    · exact Evn.pos c (Evn.pure _)
    · have h10 := vn_len10 b.length (by omega)
      have h1 := ih (p ++ [b]) (by rw [hp, List.append_assoc]; rfl) (fun d hd => by
        rcases List.mem_append.1 hd with h2 | h2
        · exact hs d h2
        · rw [List.mem_singleton] at h2
          subst h2
          omega)
      rw [List.length_append, List.length_singleton, blocksB_snoc, ← List.append_assoc] at h1
      rw [wrap_n _ (by omega)]
      exact Evn.neg c (Evn.bind (Block_ev b (by omega)) (Evn.pos (by rw [List.length_append, List.length_append, fixB_length]; omega) h1))
theorem CursorBack (v : Int) (l : List (List Int)) (h0 : (Lit.int .u64 v).wf = true) (hb : ∀ b ∈ l, ∀ x ∈ b, (Lit.int .u8 x).wf = true) : ∃ k, casketlaw03_CursorBack.f k v l = some true := by
  have hv := wfu64 h0
  refine Evn.get (g := fun k => casketlaw03_CursorBack.f k v l) ?_
  unfold casketlaw03_CursorBack.f
  refine Evn.bind awake_ev ?_
  by_cases c0 : (l.length : Int) > 30
  · exact Evn.pos c0 (Evn.pure _)
  · have h1 := back_write (l := l) hv (by omega) (fun b hm => bytes_of (hb b hm)) l [] rfl (fun b hm => by cases hm)
    rw [show blocksB [] = [] from rfl, List.append_nil] at h1
    exact Evn.neg c0 (Evn.bind (Fix_ev v 8 (by decide)) h1)
end Go.Proofs.Ytcfkljhdjoepkaa.Pure
