/- For every list of numbers (at most 100): written one behind the other they are read one behind the other, and then nothing is left. No condition. -/
import Derived.Test.YtmmghnplgpncdaaTwo
import Derived.Test.YtmmghnplgpncdaaPx4
namespace Go.Proofs.Ytmmghnplgpncdaa.Pure
open Go.RowKit Go.Proofs.Ytmmghnplgpncdaa.P Go.Proofs.Ytmmghnplgpncdaa.Kit Go.Proofs.Ytmmghnplgpncdaa.Var Go.Proofs.Ytmmghnplgpncdaa.Two Go.Proofs.YtmmghnplgpncdaaW.PrintWords Go.Proofs.YtmmghnplgpncdaaW.PrintLast Go.Proofs.YtmmghnplgpncdaaW.PrintMore
set_option linter.unusedVariables false
set_option linter.unusedSimpArgs false

def all : List Int → List Int
  | [] => []
  | v :: t => vn v.toNat ++ all t
theorem all_append (a b : List Int) : all (a ++ b) = all a ++ all b := by
  induction a with
  | nil => rfl
  | cons v t ih => simp [all, ih]
theorem all_bytes (a : List Int) : Bytes (all a) := by
  induction a with
  | nil => exact Bytes.nil
  | cons v t ih => exact Bytes.append (fun x hx => vn_byte _ x hx) ih
def U (l : List Int) : Prop := ∀ v ∈ l, 0 ≤ v ∧ v < 18446744073709551616
theorem all_len (a : List Int) (h : U a) : (all a).length ≤ 10 * a.length := by
  induction a with
  | nil => simp [all]
  | cons v t ih =>
    have h1 := h v (List.mem_cons_self ..)
    have h2 := ih fun x hx => h x (List.mem_cons_of_mem _ hx)
    have h3 := vn_len10 v.toNat (by omega)
    simp only [all, List.length_append, List.length_cons]
    omega
theorem many_read (l : List Int) (hl : l.length ≤ 100) (hu : U l) (t : List Int) : ∀ p : List Int, l = p ++ t → Evn (fun k => casketlaw02_VarintMany.l1 k l true (all t) (p.length : Int)) true := by
  induction t with
  | nil =>
    intro p e
    refine Evn.succ (Evn.pure _) fun k => ?_
    simp only [casketlaw02_VarintMany.l1]
    rw [if_neg (by rw [e]; simp), if_pos trivial]
    rfl
  | cons v t ih =>
    intro p e
    obtain ⟨v0, v1⟩ := hu v (by rw [e]; simp)
    have hlen : p.length + (t.length + 1) ≤ 100 := by
      have := congrArg List.length e
      simp at this
      omega
    have ht : U t := fun x hx => hu x (by rw [e]; simp [hx])
    have h2 := ih (p ++ [v]) (by rw [e]; simp)
    simp only [List.length_append, List.length_singleton] at h2
    have hal := all_len t ht
    have hp := vn_pos v.toNat
    have h10 := vn_len10 v.toNat (by omega)
    have hr : rd l (p.length : Int) = v := by
      rw [e]
      exact rd_mid _ _ _ _ rfl
    refine Evn.succ (G := fun k => (varint_Read.f k (vn v.toNat ++ all t)).bind fun bt => (if bt.2.2 = 0 then (if 0 ≤ (p.length : Int) then (if bt.1 = v then (if bt.2.1 < 1 then (some false) else (if bt.2.1 > ((all (v :: t)).length : Int) then (some false) else (if 0 ≤ bt.2.1 then (if bt.2.1 ≤ ((all (v :: t)).length : Int) then (casketlaw02_VarintMany.l1 k l true ((all (v :: t)).drop (bt.2.1 : Int).toNat) ((p.length + 1 : Nat) : Int)) else (none)) else (none)))) else (some false)) else (none)) else (some false))) ?_ fun k => ?_
    · refine Evn.bind (Read_back v.toNat (all t) (by omega) (all_bytes t) (by omega)) ?_
      have hal2 : (all (v :: t)).length = (vn v.toNat).length + (all t).length := by simp [all]
      refine Evn.pos rfl (Evn.pos (by omega) (Evn.pos (by simp only; omega) (Evn.neg (by simp only; omega) (Evn.neg (by simp only; omega) (Evn.pos (by simp only; omega) (Evn.pos (by simp only; omega) ?_))))))
      rw [Int.toNat_natCast, show all (v :: t) = vn v.toNat ++ all t from rfl, List.drop_left]
      exact h2
    · simp only [casketlaw02_VarintMany.l1]
      rw [if_pos (by rw [e]; simp; omega), hr, show wrap64 ((p.length : Int) + 1) = ((p.length + 1 : Nat) : Int) by unfold wrap64; omega]
      rfl
theorem many_write (l : List Int) (hl : l.length ≤ 100) (hu : U l) (t : List Int) : ∀ p : List Int, l = p ++ t → Evn (fun k => casketlaw02_VarintMany.l0 k l true (all p) ((all p).length : Int) (p.length : Int)) true := by
  induction t with
  | nil =>
    intro p e
    rw [List.append_nil] at e
    refine Evn.succ (many_read l hl hu l [] rfl) fun k => ?_
    simp only [casketlaw02_VarintMany.l0]
    rw [if_neg (by rw [e]; omega), if_pos trivial, e]
    rfl
  | cons v t ih =>
    intro p e
    obtain ⟨v0, v1⟩ := hu v (by rw [e]; simp)
    have hlen : p.length + (t.length + 1) ≤ 100 := by
      have := congrArg List.length e
      simp at this
      omega
    have hpu : U p := fun x hx => hu x (by rw [e]; simp [hx])
    have hal := all_len p hpu
    have h10 := vn_len10 v.toNat (by omega)
    have hr : rd l (p.length : Int) = v := by
      rw [e]
      exact rd_mid _ _ _ _ rfl
    have h2 := ih (p ++ [v]) (by rw [e]; simp)
    simp only [List.length_append, List.length_singleton, all_append, all, List.append_nil] at h2
    refine Evn.succ (G := fun k => (varint_Append.f k (all p) v).bind fun t => (varint_Size.f k v).bind fun t2 => casketlaw02_VarintMany.l0 k l true t (wrap64 (((all p).length : Int) + t2)) ((p.length + 1 : Nat) : Int)) ?_ fun k => ?_
    · refine Evn.bind (Append_ev (all p) v (by omega) v0 v1) (Evn.bind (Size_ev v v0 v1) ?_)
      rw [show wrap64 (((all p).length : Int) + ((vn v.toNat).length : Int)) = (((all p).length + (vn v.toNat).length : Nat) : Int) by unfold wrap64; omega]
      exact h2
    · simp only [casketlaw02_VarintMany.l0]
      rw [if_pos (by rw [e]; simp; omega), if_pos (by omega), hr, show wrap64 ((p.length : Int) + 1) = ((p.length + 1 : Nat) : Int) by unfold wrap64; omega]
theorem VarintMany : casketlaw02_VarintMany.Pure := by
  intro l hm h8 hw
  refine Evn.get (g := fun k => casketlaw02_VarintMany.f k l) ?_
  unfold casketlaw02_VarintMany.f
  refine Evn.bind awake_ev ?_
  by_cases h : (l.length : Int) > 100
  · exact Evn.pos h (Evn.pure _)
  · refine Evn.neg h ?_
    exact many_write l (by omega) (fun v hv => wfu64 (hw v hv)) l [] rfl

end Go.Proofs.Ytmmghnplgpncdaa.Pure
