/- What lies between numbers and its sums, as plain lists; what the printed functions of layer 4 come to. -/
import Derived.Test.YtlpejnkpkcnkmaaKit
import Derived.Test.YtlpejnkpkcnkmaaPx2
import Derived.Test.YtlpejnkpkcnkmaaDiff
import Derived.Test.YtlpejnkpkcnkmaaPx1
import Derived.Test.YtlpejnkpkcnkmaaPx3
namespace Go.Proofs.Ytlpejnkpkcnkmaa.Plain
open Go.RowKit Go.Proofs.Ytlpejnkpkcnkmaa.P Go.Proofs.Ytlpejnkpkcnkmaa.Kit Go.Proofs.YtlpejnkpkcnkmaaW.PrintWords Go.Proofs.YtlpejnkpkcnkmaaW.PrintLast Go.Proofs.YtlpejnkpkcnkmaaW.PrintMore
set_option linter.unusedVariables false
set_option linter.unusedSimpArgs false

def dif : Int → List Int → List Int
  | _, [] => []
  | last, a :: t => wrap64 (a - last) :: dif a t
def sm : Int → List Int → List Int
  | _, [] => []
  | last, a :: t => wrap64 (a + last) :: sm (wrap64 (a + last)) t
def Pd (j : Nat) (x : List Int) : List Int := x.take (j + 1) ++ dif (rd x (j : Int)) (x.drop (j + 1))
def Qd (j : Nat) (x : List Int) : List Int := x.take (j + 1) ++ sm (rd x (j : Int)) (x.drop (j + 1))
def D : Nat → List Int → List Int
  | 0, x => x
  | k + 1, x => Pd k (D k x)
def S : Nat → List Int → List Int
  | 0, x => x
  | k + 1, x => S k (Qd k x)
def Wf (x : List Int) : Prop := ∀ a ∈ x, (Lit.int .i64 a).wf = true

theorem wf_wrap (n : Int) : (Lit.int .i64 (wrap64 n)).wf = true := by
  have := wrap64_bd n
  simp [Lit.wf, IntKind.min, IntKind.max, IntKind.signed, IntKind.bits, this]
theorem dif_length (a : Int) (t : List Int) : (dif a t).length = t.length := by
  induction t generalizing a with
  | nil => rfl
  | cons b t ih => simp [dif, ih]
theorem sm_length (a : Int) (t : List Int) : (sm a t).length = t.length := by
  induction t generalizing a with
  | nil => rfl
  | cons b t ih => simp [sm, ih]
theorem dif_wf (a : Int) (t : List Int) : Wf (dif a t) := by
  induction t generalizing a with
  | nil => intro x hx; cases hx
  | cons b t ih =>
    intro x hx
    rcases List.mem_cons.1 hx with rfl | hx
    · exact wf_wrap _
    · exact ih _ x hx
theorem sm_wf (a : Int) (t : List Int) : Wf (sm a t) := by
  induction t generalizing a with
  | nil => intro x hx; cases hx
  | cons b t ih =>
    intro x hx
    rcases List.mem_cons.1 hx with rfl | hx
    · exact wf_wrap _
    · exact ih _ x hx
theorem sm_dif (a : Int) (t : List Int) (h : Wf t) : sm a (dif a t) = t := by
  induction t generalizing a with
  | nil => rfl
  | cons b t ih =>
    have hb := wf64 (h b (List.mem_cons_self ..))
    have e : wrap64 (wrap64 (b - a) + a) = b := by
      unfold wrap64
      omega
    simp only [dif, sm, e]
    rw [ih _ fun x hx => h x (List.mem_cons_of_mem _ hx)]
theorem dif_sm (a : Int) (t : List Int) (h : Wf t) : dif a (sm a t) = t := by
  induction t generalizing a with
  | nil => rfl
  | cons b t ih =>
    have hb := wf64 (h b (List.mem_cons_self ..))
    have e : wrap64 (wrap64 (b + a) - a) = b := by
      unfold wrap64
      omega
    simp only [dif, sm, e]
    rw [ih _ fun x hx => h x (List.mem_cons_of_mem _ hx)]
theorem dif_take (a : Int) (t : List Int) (n : Nat) : dif a (t.take n) = (dif a t).take n := by
  induction t generalizing a n with
  | nil => simp [dif]
  | cons b t ih =>
    cases n with
    | zero => simp [dif]
    | succ n => simp [dif, ih]
theorem sm_take (a : Int) (t : List Int) (n : Nat) : sm a (t.take n) = (sm a t).take n := by
  induction t generalizing a n with
  | nil => simp [sm]
  | cons b t ih =>
    cases n with
    | zero => simp [sm]
    | succ n => simp [sm, ih]
theorem Pd_length (j : Nat) (x : List Int) : (Pd j x).length = x.length := by
  simp only [Pd, List.length_append, dif_length, List.length_take, List.length_drop]
  omega
theorem Qd_length (j : Nat) (x : List Int) : (Qd j x).length = x.length := by
  simp only [Qd, List.length_append, sm_length, List.length_take, List.length_drop]
  omega
theorem D_length (k : Nat) (x : List Int) : (D k x).length = x.length := by
  induction k with
  | zero => rfl
  | succ k ih => rw [D, Pd_length, ih]
theorem S_length (k : Nat) (x : List Int) : (S k x).length = x.length := by
  induction k generalizing x with
  | zero => rfl
  | succ k ih => rw [S, ih, Qd_length]
theorem wf_append {a b : List Int} (ha : Wf a) (hb : Wf b) : Wf (a ++ b) := fun x hx => by
  rcases List.mem_append.1 hx with h | h
  · exact ha x h
  · exact hb x h
theorem wf_take {a : List Int} (h : Wf a) (n : Nat) : Wf (a.take n) := fun x hx => h x (List.mem_of_mem_take hx)
theorem wf_drop {a : List Int} (h : Wf a) (n : Nat) : Wf (a.drop n) := fun x hx => h x (List.mem_of_mem_drop hx)
theorem Pd_wf (j : Nat) {x : List Int} (h : Wf x) : Wf (Pd j x) := wf_append (wf_take h _) (dif_wf _ _)
theorem Qd_wf (j : Nat) {x : List Int} (h : Wf x) : Wf (Qd j x) := wf_append (wf_take h _) (sm_wf _ _)
theorem D_wf (k : Nat) {x : List Int} (h : Wf x) : Wf (D k x) := by
  induction k with
  | zero => exact h
  | succ k ih => exact Pd_wf k ih
theorem S_wf (k : Nat) {x : List Int} (h : Wf x) : Wf (S k x) := by
  induction k generalizing x with
  | zero => exact h
  | succ k ih => exact ih (Qd_wf k h)
theorem Pd_big (j : Nat) (x : List Int) (h : x.length ≤ j + 1) : Pd j x = x := by
  simp [Pd, List.take_of_length_le h, List.drop_eq_nil_of_le h, dif]
theorem Qd_big (j : Nat) (x : List Int) (h : x.length ≤ j + 1) : Qd j x = x := by
  simp [Qd, List.take_of_length_le h, List.drop_eq_nil_of_le h, sm]
/-- What has j + 1 numbers ahead, and some behind. -/
theorem mk_take (j : Nat) (x u : List Int) (h : j + 1 < x.length) : (x.take (j + 1) ++ u).take (j + 1) = x.take (j + 1) ∧ (x.take (j + 1) ++ u).drop (j + 1) = u ∧ rd (x.take (j + 1) ++ u) (j : Int) = rd x (j : Int) := by
  have hl : (x.take (j + 1)).length = j + 1 := by
    rw [List.length_take]
    omega
  refine ⟨List.take_left' hl, List.drop_left' hl, ?_⟩
  rw [rd_left _ _ _ (by omega) (by omega), rd_take _ _ _ (by omega) (by omega)]
theorem Q_P (j : Nat) {x : List Int} (h : Wf x) : Qd j (Pd j x) = x := by
  rcases Nat.lt_or_ge (j + 1) x.length with hj | hj
  · obtain ⟨e1, e2, e3⟩ := mk_take j x (dif (rd x (j : Int)) (x.drop (j + 1))) hj
    unfold Qd
    rw [show Pd j x = x.take (j + 1) ++ dif (rd x (j : Int)) (x.drop (j + 1)) from rfl, e1, e2, e3, sm_dif _ _ (wf_drop h _), List.take_append_drop]
  · rw [Pd_big j x hj, Qd_big j x hj]
theorem P_Q (j : Nat) {x : List Int} (h : Wf x) : Pd j (Qd j x) = x := by
  rcases Nat.lt_or_ge (j + 1) x.length with hj | hj
  · obtain ⟨e1, e2, e3⟩ := mk_take j x (sm (rd x (j : Int)) (x.drop (j + 1))) hj
    unfold Pd
    rw [show Qd j x = x.take (j + 1) ++ sm (rd x (j : Int)) (x.drop (j + 1)) from rfl, e1, e2, e3, dif_sm _ _ (wf_drop h _), List.take_append_drop]
  · rw [Qd_big j x hj, Pd_big j x hj]
theorem S_D (k : Nat) {x : List Int} (h : Wf x) : S k (D k x) = x := by
  induction k with
  | zero => rfl
  | succ k ih => rw [D, S, Q_P k (D_wf k h), ih]
theorem D_S (k : Nat) {x : List Int} (h : Wf x) : D k (S k x) = x := by
  induction k generalizing x with
  | zero => rfl
  | succ k ih => rw [D, S, ih (Qd_wf k h), P_Q k h]
theorem Pd_take (j c : Nat) (x : List Int) : Pd j (x.take c) = (Pd j x).take c := by
  unfold Pd
  rcases Nat.lt_or_ge (j + 1) c with h | h
  · rw [List.take_take, Nat.min_eq_left (by omega), List.drop_take, rd_take _ _ _ (by omega) (by omega), dif_take, List.take_append, List.take_take, Nat.min_eq_right (by omega), List.length_take]
    rcases Nat.lt_or_ge (j + 1) x.length with h1 | h1
    · rw [Nat.min_eq_left (by omega)]
    · rw [List.drop_eq_nil_of_le h1]
      simp [dif]
  · rw [List.drop_eq_nil_of_le (by rw [List.length_take]; omega), List.take_append, List.length_take, List.take_take, List.take_take, Nat.min_eq_right (by omega), Nat.min_eq_left (by omega)]
    rcases Nat.lt_or_ge (j + 1) x.length with h1 | h1
    · rw [Nat.min_eq_left (by omega), Nat.sub_eq_zero_of_le (by omega)]
      simp [dif]
    · rw [List.drop_eq_nil_of_le h1]
      simp [dif]
theorem Qd_take (j c : Nat) (x : List Int) : Qd j (x.take c) = (Qd j x).take c := by
  unfold Qd
  rcases Nat.lt_or_ge (j + 1) c with h | h
  · rw [List.take_take, Nat.min_eq_left (by omega), List.drop_take, rd_take _ _ _ (by omega) (by omega), sm_take, List.take_append, List.take_take, Nat.min_eq_right (by omega), List.length_take]
    rcases Nat.lt_or_ge (j + 1) x.length with h1 | h1
    · rw [Nat.min_eq_left (by omega)]
    · rw [List.drop_eq_nil_of_le h1]
      simp [sm]
  · rw [List.drop_eq_nil_of_le (by rw [List.length_take]; omega), List.take_append, List.length_take, List.take_take, List.take_take, Nat.min_eq_right (by omega), Nat.min_eq_left (by omega)]
    rcases Nat.lt_or_ge (j + 1) x.length with h1 | h1
    · rw [Nat.min_eq_left (by omega), Nat.sub_eq_zero_of_le (by omega)]
      simp [sm]
    · rw [List.drop_eq_nil_of_le h1]
      simp [sm]
theorem D_take (k c : Nat) (x : List Int) : D k (x.take c) = (D k x).take c := by
  induction k with
  | zero => rfl
  | succ k ih => rw [D, D, ih, Pd_take]
theorem S_take (k c : Nat) (x : List Int) : S k (x.take c) = (S k x).take c := by
  induction k generalizing x with
  | zero => rfl
  | succ k ih => rw [S, S, Qd_take, ih]
theorem rd_dif (a : Int) (t : List Int) (i : Nat) (h : i < t.length) : rd (dif a t) (i : Int) = wrap64 (rd t (i : Int) - if i = 0 then a else rd t ((i : Int) - 1)) := by
  induction t generalizing a i with
  | nil => simp at h
  | cons b t ih =>
    cases i with
    | zero => simp [dif, rd]
    | succ i =>
      simp only [dif, List.length_cons] at h ⊢
      rw [rd_cons _ _ _ (by omega), rd_cons _ _ _ (by omega), if_neg (by omega), show ((i + 1 : Nat) : Int) - 1 = (i : Int) by omega, ih b i (by omega)]
      by_cases hi : i = 0
      · subst hi
        simp [rd]
      · rw [if_neg hi, rd_cons _ _ _ (by omega)]
theorem rd_Pd (j : Nat) (x : List Int) (i : Nat) (h : i < x.length) : rd (Pd j x) (i : Int) = if i ≤ j then rd x (i : Int) else wrap64 (rd x (i : Int) - rd x ((i : Int) - 1)) := by
  unfold Pd
  by_cases hi : i ≤ j
  · rw [if_pos hi, rd_left _ _ _ (by omega) (by rw [List.length_take]; omega), rd_take _ _ _ (by omega) (by omega)]
  · rw [if_neg hi, rd_right _ _ _ (by rw [List.length_take]; omega), List.length_take, Nat.min_eq_left (by omega), show (i : Int) - ((j + 1 : Nat) : Int) = ((i - (j + 1) : Nat) : Int) by omega, rd_dif _ _ _ (by rw [List.length_drop]; omega), rd_drop _ _ _ (by omega), show ((i - (j + 1) : Nat) : Int) + ((j + 1 : Nat) : Int) = (i : Int) by omega]
    by_cases c : i - (j + 1) = 0
    · rw [if_pos c, show (i : Int) - 1 = (j : Int) by omega]
    · rw [if_neg c, rd_drop _ _ _ (by omega), show ((i - (j + 1) : Nat) : Int) - 1 + ((j + 1 : Nat) : Int) = (i : Int) - 1 by omega]
theorem rd_zero_D (k : Nat) (x : List Int) (h : 0 < x.length) : rd (D k x) 0 = rd x 0 := by
  induction k with
  | zero => rfl
  | succ k ih =>
    have := rd_Pd k (D k x) 0 (by rw [D_length]; exact h)
    simp at this
    rw [D, this, ih]
theorem rd_zero_Qd (j : Nat) (x : List Int) (h : 0 < x.length) : rd (Qd j x) 0 = rd x 0 := by
  unfold Qd
  rw [rd_left _ _ _ (by omega) (by rw [List.length_take]; omega), rd_take _ _ _ (by omega) (by omega)]
theorem rd_zero_S (k : Nat) (x : List Int) (h : 0 < x.length) : rd (S k x) 0 = rd x 0 := by
  induction k generalizing x with
  | zero => rfl
  | succ k ih => rw [S, ih _ (by rw [Qd_length]; exact h), rd_zero_Qd _ _ h]

/-! the program's Diff -/
theorem go_eq (p t : List Int) (last : Int) : delta_Diff.go t.length p.length last (p ++ t) = p ++ dif last t := by
  induction t generalizing p last with
  | nil => simp [delta_Diff.go, dif]
  | cons a t ih =>
    rw [List.length_cons, delta_Diff.go, rd_mid _ _ _ _ rfl, set_mid _ _ _ _ _ rfl]
    have := ih (p ++ [wrap64 (a - last)]) a
    simp only [List.length_append, List.length_singleton, List.append_assoc, List.singleton_append] at this
    rw [this, dif]
theorem pass_eq (j : Nat) (x : List Int) (h : j < x.length) : delta_Diff.go (x.length - (j + 1)) (j + 1) (rd x (j : Int)) x = Pd j x := by
  have := go_eq (x.take (j + 1)) (x.drop (j + 1)) (rd x (j : Int))
  rw [List.take_append_drop, List.length_drop, List.length_take, Nat.min_eq_left (by omega)] at this
  exact this
theorem all_eq (d j : Nat) (x : List Int) (h : d + j ≤ x.length) : delta_Diff.all d j (D j x) = D (d + j) x := by
  induction d generalizing j with
  | zero => simp [delta_Diff.all]
  | succ d ih =>
    rw [delta_Diff.all, pass_eq j (D j x) (by rw [D_length]; omega)]
    have := ih (j + 1) (by omega)
    rw [show d + (j + 1) = d + 1 + j by omega] at this
    exact this
theorem D_more (k : Nat) (x : List Int) (h : x.length ≤ k) : D k x = D x.length x := by
  induction k with
  | zero =>
    have : x.length = 0 := by omega
    rw [this]
  | succ k ih =>
    rcases Nat.eq_or_lt_of_le h with e | e
    · rw [e]
    · rw [D, Pd_big k _ (by rw [D_length]; omega), ih (by omega)]
theorem Diff_eq (l : List Int) (a : Int) (h0 : 0 ≤ a) (h3 : a ≤ 3) (hl : l.length < 17592186044416) : delta_Diff.f l a = some (D a.toNat l, 0) := by
  unfold delta_Diff.f
  rw [if_neg (by omega), if_neg (by omega), if_pos hl]
  have := all_eq (min a.toNat l.length) 0 l (by omega)
  simp only [D, Nat.add_zero] at this
  rw [this]
  rcases Nat.lt_or_ge a.toNat l.length with h | h
  · rw [Nat.min_eq_left (by omega)]
  · rw [Nat.min_eq_right h, D_more _ _ h]
theorem Diff_bad (l : List Int) (a : Int) (h : a < 0 ∨ 3 < a) : delta_Diff.f l a = some ([], 1) := by
  unfold delta_Diff.f
  by_cases h0 : a < 0
  · rw [if_pos h0]
  · rw [if_neg h0, if_pos (by omega)]

/-! Same -/
theorem Same_loop (a b : List Int) (hl : a.length = b.length) (hs : a.length < 17592186044416) (d i : Nat) (hi : i + d = a.length) (h : a.take i = b.take i) : Evn (fun k => casketref04_Same.l0 k a b (i : Int)) (decide (a = b)) := by
  induction d generalizing i with
  | zero =>
    refine Evn.succ (G := fun _ => some true) ?_ fun k => ?_
    · refine (Evn.pure true).eq ?_
      rw [List.take_of_length_le (by omega), List.take_of_length_le (by omega)] at h
      simp [h]
    · simp only [casketref04_Same.l0]
      rw [if_neg (by omega)]
  | succ d ih =>
    by_cases he : rd a (i : Int) = rd b (i : Int)
    · refine Evn.succ (ih (i + 1) (by omega) ?_) fun k => ?_
      · rw [List.take_add_one, List.take_add_one, h]
        have h1 : i < a.length := by omega
        have h2 : i < b.length := by omega
        simp only [rd_nat, List.getD_eq_getElem?_getD, List.getElem?_eq_getElem h1, List.getElem?_eq_getElem h2, Option.getD_some] at he
        rw [List.getElem?_eq_getElem h1, List.getElem?_eq_getElem h2, he]
      · simp only [casketref04_Same.l0]
        rw [if_pos (by omega), if_pos (by omega), if_pos (by omega), if_pos he, show wrap64 ((i : Int) + 1) = ((i + 1 : Nat) : Int) by unfold wrap64; omega]
    · refine Evn.succ (G := fun _ => some false) ?_ fun k => ?_
      · refine (Evn.pure false).eq ?_
        have : a ≠ b := fun e => he (by rw [e])
        simp [this]
      · simp only [casketref04_Same.l0]
        rw [if_pos (by omega), if_pos (by omega), if_pos (by omega), if_neg he]
theorem same_ev (a b : List Int) (hs : a.length < 17592186044416) : Evn (fun k => casketlaw04_same.f k a b) (decide (a = b)) := by
  unfold casketlaw04_same.f
  refine Evn.bind (a := decide (a = b)) ?_ (Evn.pure _)
  unfold casketref04_Same.f
  by_cases hl : a.length = b.length
  · refine Evn.pos (by omega) ?_
    exact Same_loop a b hl hs a.length 0 (by omega) (by simp)
  · refine Evn.neg (by omega) ?_
    refine (Evn.pure false).eq ?_
    have : a ≠ b := fun e => hl (by rw [e])
    simp [this]
theorem same_self (a : List Int) (hs : a.length < 17592186044416) : Evn (fun k => casketlaw04_same.f k a a) true := (same_ev a a hs).eq (by simp)

/-! the program's Sum -/
theorem sum_round (r : List Int × Int) (j : Int) (p t : List Int) (hp : p ≠ []) (hs : (p ++ t).length < 17592186044416) (h : Evn (fun k => delta_Sum.l0 k (p ++ sm (rd p ((p.length : Int) - 1)) t) (wrap64 (j - 1))) r) : Evn (fun k => delta_Sum.l1 k (p ++ t) j (p.length : Int)) r := by
  induction t generalizing p with
  | nil =>
    refine Evn.succ h fun k => ?_
    simp only [delta_Sum.l1]
    rw [if_neg (by simp)]
    simp [sm]
  | cons a t ih =>
    have hp0 : 0 < p.length := List.length_pos_iff.2 hp
    have hs2 : p.length + (t.length + 1) < 17592186044416 := by simpa using hs
    have e1 : wrap64 ((p.length : Int) - 1) = (p.length : Int) - 1 := wrap64_id (by omega) (by omega)
    have e2 : rd (p ++ a :: t) ((p.length : Int) - 1) = rd p ((p.length : Int) - 1) := rd_left _ _ _ (by omega) (by omega)
    have h2 := ih (p ++ [wrap64 (a + rd p ((p.length : Int) - 1))]) (by simp) (by simpa using hs) (by
      have e : rd (p ++ [wrap64 (a + rd p ((p.length : Int) - 1))]) (((p ++ [wrap64 (a + rd p ((p.length : Int) - 1))]).length : Int) - 1) = wrap64 (a + rd p ((p.length : Int) - 1)) := rd_mid _ _ _ _ (by simp)
      rw [e]
      simpa [sm] using h)
    refine Evn.succ h2 fun k => ?_
    simp only [delta_Sum.l1]
    rw [if_pos (by simp; omega), if_pos (by omega), e1, if_pos (by omega), if_pos (by simp; omega), rd_mid _ _ _ _ rfl, e2, Int.toNat_natCast, set_mid _ _ _ _ _ rfl, show wrap64 ((p.length : Int) + 1) = ((p.length + 1 : Nat) : Int) by unfold wrap64; omega]
    simp
theorem sum_pass (r : List Int × Int) (j : Nat) (x : List Int) (hj : j < x.length) (hs : x.length < 17592186044416) (h : Evn (fun k => delta_Sum.l0 k (Qd j x) ((j : Int) - 1)) r) : Evn (fun k => delta_Sum.l0 k x (j : Int)) r := by
  have hl : (x.take (j + 1)).length = j + 1 := by
    rw [List.length_take]
    omega
  have := sum_round r (j : Int) (x.take (j + 1)) (x.drop (j + 1)) (fun e => by rw [e] at hl; simp at hl) (by rw [List.take_append_drop]; exact hs) (by
    rw [hl, show ((j + 1 : Nat) : Int) - 1 = (j : Int) by omega, rd_take _ _ _ (by omega) (by omega), show wrap64 ((j : Int) - 1) = (j : Int) - 1 from wrap64_id (by omega) (by omega)]
    exact h)
  rw [List.take_append_drop, hl] at this
  refine Evn.succ this fun k => ?_
  simp only [delta_Sum.l0]
  rw [if_pos (by omega), show wrap64 ((j : Int) + 1) = ((j + 1 : Nat) : Int) by unfold wrap64; omega]
theorem sum_all (j : Nat) (x : List Int) (hj : j ≤ x.length) (hs : x.length < 17592186044416) : Evn (fun k => delta_Sum.l0 k x ((j : Int) - 1)) (S j x, 0) := by
  induction j generalizing x with
  | zero =>
    refine Evn.succ (Evn.pure _) fun k => ?_
    simp only [delta_Sum.l0]
    rw [if_neg (by omega)]
    rfl
  | succ j ih =>
    rw [show ((j + 1 : Nat) : Int) - 1 = (j : Int) by omega]
    exact sum_pass _ j x (by omega) hs (ih (Qd j x) (by rw [Qd_length]; omega) (by rw [Qd_length]; exact hs))
theorem S_more (k : Nat) (x : List Int) (h : x.length ≤ k) : S k x = S x.length x := by
  induction k with
  | zero =>
    have : x.length = 0 := by omega
    rw [this]
  | succ k ih =>
    rcases Nat.eq_or_lt_of_le h with e | e
    · rw [e]
    · rw [S, Qd_big k _ (by omega), ih (by omega)]
theorem Sum_eq (l : List Int) (a : Int) (h0 : 0 ≤ a) (h3 : a ≤ 3) (hs : l.length < 17592186044416) : Evn (fun k => delta_Sum.f k l a) (S a.toNat l, 0) := by
  unfold delta_Sum.f
  refine Evn.neg (by omega) ?_
  refine Evn.succ (G := fun k => delta_Sum.l0 k l (((min a.toNat l.length : Nat) : Int) - 1)) ?_ fun k => ?_
  · refine (sum_all _ l (by omega) hs).eq ?_
    rcases Nat.lt_or_ge a.toNat l.length with h | h
    · rw [Nat.min_eq_left (by omega)]
    · rw [Nat.min_eq_right h, S_more _ _ h]
  · simp only [delta_Sum.j0]
    rw [if_neg (by simp; omega), clone_f l hs, Option.bind_some]
    congr 1
    unfold mn
    split
    · rw [wrap64_id (by omega) (by omega)]
      omega
    · rw [wrap64_id (by omega) (by omega)]
      omega
theorem Sum_bad (l : List Int) (a : Int) (h : a < 0 ∨ 3 < a) : Evn (fun k => delta_Sum.f k l a) ([], 1) := by
  unfold delta_Sum.f
  by_cases h0 : a < 0
  · refine Evn.pos h0 ?_
    refine Evn.succ (Evn.pure _) fun k => ?_
    simp [delta_Sum.j0]
  · refine Evn.neg h0 ?_
    refine Evn.succ (Evn.pure _) fun k => ?_
    simp only [delta_Sum.j0]
    rw [if_pos (by simp; omega)]

/-! the document's Sum and Diff -/
theorem rsum_round (r : List Int × Int) (j : Int) (p t : List Int) (hp : p ≠ []) (hs : (p ++ t).length < 17592186044416) (h : Evn (fun k => casketref04_Sum.l0 k (p ++ sm (rd p ((p.length : Int) - 1)) t) (wrap64 (j - 1))) r) : Evn (fun k => casketref04_Sum.l1 k (p ++ t) j (p.length : Int)) r := by
  induction t generalizing p with
  | nil =>
    refine Evn.succ h fun k => ?_
    simp only [casketref04_Sum.l1]
    rw [if_neg (by simp)]
    simp [sm]
  | cons a t ih =>
    have hp0 : 0 < p.length := List.length_pos_iff.2 hp
    have hs2 : p.length + (t.length + 1) < 17592186044416 := by simpa using hs
    have e1 : wrap64 ((p.length : Int) - 1) = (p.length : Int) - 1 := wrap64_id (by omega) (by omega)
    have e2 : rd (p ++ a :: t) ((p.length : Int) - 1) = rd p ((p.length : Int) - 1) := rd_left _ _ _ (by omega) (by omega)
    have h2 := ih (p ++ [wrap64 (a + rd p ((p.length : Int) - 1))]) (by simp) (by simpa using hs) (by
      have e : rd (p ++ [wrap64 (a + rd p ((p.length : Int) - 1))]) (((p ++ [wrap64 (a + rd p ((p.length : Int) - 1))]).length : Int) - 1) = wrap64 (a + rd p ((p.length : Int) - 1)) := rd_mid _ _ _ _ (by simp)
      rw [e]
      simpa [sm] using h)
    refine Evn.succ h2 fun k => ?_
    simp only [casketref04_Sum.l1]
    rw [if_pos (by simp; omega), if_pos (by omega), e1, if_pos (by omega), if_pos (by simp; omega), rd_mid _ _ _ _ rfl, e2, Int.toNat_natCast, set_mid _ _ _ _ _ rfl, show wrap64 ((p.length : Int) + 1) = ((p.length + 1 : Nat) : Int) by unfold wrap64; omega]
    simp
theorem rsum_all (j : Nat) (hj : j ≤ 3) (x : List Int) (hs : x.length < 17592186044416) : Evn (fun k => casketref04_Sum.l0 k x (j : Int)) (S j x, 0) := by
  induction j generalizing x with
  | zero =>
    refine Evn.succ (Evn.pure _) fun k => ?_
    simp only [casketref04_Sum.l0]
    rw [if_neg (by omega)]
    rfl
  | succ j ih =>
    have hn := ih (by omega) (Qd j x) (by rw [Qd_length]; exact hs)
    have e : wrap64 (((j + 1 : Nat) : Int) - 1) = (j : Int) := by unfold wrap64; omega
    refine Evn.succ (G := fun k => casketref04_Sum.l1 k x ((j + 1 : Nat) : Int) ((j + 1 : Nat) : Int)) ?_ fun k => ?_
    · rcases Nat.lt_or_ge j x.length with hl | hl
      · have hl2 : (x.take (j + 1)).length = j + 1 := by
          rw [List.length_take]
          omega
        have := rsum_round (S (j + 1) x, 0) ((j + 1 : Nat) : Int) (x.take (j + 1)) (x.drop (j + 1)) (fun e => by rw [e] at hl2; simp at hl2) (by rw [List.take_append_drop]; exact hs) (by
          rw [hl2, e, show ((j + 1 : Nat) : Int) - 1 = (j : Int) by omega, rd_take _ _ _ (by omega) (by omega)]
          exact hn)
        rw [List.take_append_drop, hl2] at this
        exact this
      · refine Evn.succ hn fun k => ?_
        simp only [casketref04_Sum.l1]
        rw [if_neg (by omega), e, Qd_big j x (by omega)]
    · simp only [casketref04_Sum.l0]
      rw [if_pos (by omega)]
theorem rSum_eq (l : List Int) (a : Int) (h0 : 0 ≤ a) (h3 : a ≤ 3) (hs : l.length < 17592186044416) : Evn (fun k => casketref04_Sum.f k l a) (S a.toNat l, 0) := by
  unfold casketref04_Sum.f
  refine Evn.neg (by omega) ?_
  refine Evn.succ (rsum_all a.toNat (by omega) l hs) fun k => ?_
  simp only [casketref04_Sum.j0]
  rw [if_neg (by simp; omega), Option.bind_some, if_pos (by simpa using hs), List.nil_append, show ((a.toNat : Nat) : Int) = a by omega]
theorem rSum_bad (l : List Int) (a : Int) (h : a < 0 ∨ 3 < a) : Evn (fun k => casketref04_Sum.f k l a) ([], 1) := by
  unfold casketref04_Sum.f
  by_cases h0 : a < 0
  · refine Evn.pos h0 ?_
    refine Evn.succ (Evn.pure _) fun k => ?_
    simp [casketref04_Sum.j0]
  · refine Evn.neg h0 ?_
    refine Evn.succ (Evn.pure _) fun k => ?_
    simp only [casketref04_Sum.j0]
    rw [if_pos (by simp; omega)]
theorem take_rd (y : List Int) (i : Nat) (h : i < y.length) : y.take (i + 1) = y.take i ++ [rd y (i : Int)] := by
  rw [List.take_add_one, List.getElem?_eq_getElem h]
  simp [rd, List.getD_eq_getElem?_getD, List.getElem?_eq_getElem h]
theorem rdiff_loop (j : Nat) (m : List Int) (hs : m.length < 17592186044416) (d i : Nat) (hi : i + d = m.length) : Evn (fun k => casketref04_Diff.l0 k ((j + 1 : Nat) : Int) m ((Pd j m).take i) (i : Int)) (Pd j m, 0) := by
  induction d generalizing i with
  | zero =>
    refine Evn.succ (Evn.pure _) fun k => ?_
    simp only [casketref04_Diff.l0]
    rw [if_neg (by omega), List.take_of_length_le (by rw [Pd_length]; omega)]
  | succ d ih =>
    refine Evn.succ (ih (i + 1) (by omega)) fun k => ?_
    have hr := rd_Pd j m i (by omega)
    simp only [casketref04_Diff.l0]
    rw [take_rd _ _ (by rw [Pd_length]; omega), hr, if_pos (by omega), show wrap64 ((i : Int) + 1) = ((i + 1 : Nat) : Int) by unfold wrap64; omega]
    by_cases hij : i ≤ j
    · rw [if_pos (by omega), if_pos (by omega), if_pos (by rw [List.length_take, Pd_length]; omega), if_pos hij]
    · have e : wrap64 ((i : Int) - 1) = (i : Int) - 1 := wrap64_id (by omega) (by omega)
      rw [if_neg (by omega), if_pos (by omega), e, if_pos (by omega), if_pos (by omega), if_pos (by rw [List.length_take, Pd_length]; omega), if_neg hij]
theorem rDiff_nat (j : Nat) (hj : j ≤ 3) (l : List Int) (hs : l.length < 17592186044416) : Evn (fun k => casketref04_Diff.f k l (j : Int)) (D j l, 0) := by
  induction j with
  | zero =>
    refine Evn.succ (Evn.succ (Evn.pure _) fun k => ?_) (fun k => by simp only [casketref04_Diff.f]; rw [if_neg (by omega)])
    simp only [casketref04_Diff.j0]
    rw [if_neg (by simp), if_pos (by omega), Option.bind_some, if_pos (by simpa using hs), List.nil_append]
    rfl
  | succ j ih =>
    refine Evn.succ (Evn.succ (G := fun k => (casketref04_Diff.f k l (j : Int)).bind fun bt => casketref04_Diff.l0 k ((j + 1 : Nat) : Int) bt.1 ([] : List Int) 0) ?_ fun k => ?_) (fun k => by simp only [casketref04_Diff.f]; rw [if_neg (by omega)])
    · refine Evn.bind (ih (by omega)) ?_
      have := rdiff_loop j (D j l) (by rw [D_length]; exact hs) (D j l).length 0 (by omega)
      simpa [D] using this
    · simp only [casketref04_Diff.j0]
      rw [if_neg (by simp; omega), if_neg (by omega), show wrap64 (((j + 1 : Nat) : Int) - 1) = (j : Int) by unfold wrap64; omega]
theorem rDiff_eq (l : List Int) (a : Int) (h0 : 0 ≤ a) (h3 : a ≤ 3) (hs : l.length < 17592186044416) : Evn (fun k => casketref04_Diff.f k l a) (D a.toNat l, 0) := by
  have := rDiff_nat a.toNat (by omega) l hs
  rwa [show ((a.toNat : Nat) : Int) = a by omega] at this
theorem rDiff_bad (l : List Int) (a : Int) (h : a < 0 ∨ 3 < a) : Evn (fun k => casketref04_Diff.f k l a) ([], 1) := by
  by_cases h0 : a < 0
  · refine Evn.succ (Evn.succ (Evn.pure _) fun k => ?_) (fun k => by simp only [casketref04_Diff.f]; rw [if_pos h0])
    simp [casketref04_Diff.j0]
  · refine Evn.succ (Evn.succ (Evn.pure _) fun k => ?_) (fun k => by simp only [casketref04_Diff.f]; rw [if_neg h0])
    simp only [casketref04_Diff.j0]
    rw [if_pos (by simp; omega)]

theorem awake_ev : Evn casketlaw04_awake.f true := Evn.of casketlaw04_awake.mono 30 (by decide +kernel)
end Go.Proofs.Ytlpejnkpkcnkmaa.Plain
