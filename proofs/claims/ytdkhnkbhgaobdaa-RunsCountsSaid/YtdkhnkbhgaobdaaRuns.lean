/- Numbers as runs: what runs.Encode, Decode and the document's come to, as plain lists. -/
import Derived.Test.YtdkhnkbhgaobdaaPx1
import Derived.Test.YtdkhnkbhgaobdaaRunsDec
import Derived.Test.YtdkhnkbhgaobdaaPx2
import Derived.Test.YtdkhnkbhgaobdaaPx3
import Derived.Test.YtdkhnkbhgaobdaaBits
import Derived.Test.YtdkhnkbhgaobdaaVar
import Derived.Test.YtdkhnkbhgaobdaaRefVar
import Derived.Test.YtdkhnkbhgaobdaaRunsDec
namespace Go.Proofs.Ytdkhnkbhgaobdaa.Runs
open Go.RowKit Go.Proofs.Ytdkhnkbhgaobdaa.P Go.Proofs.Ytdkhnkbhgaobdaa.Kit Go.Proofs.Ytdkhnkbhgaobdaa.Var Go.Proofs.YtdkhnkbhgaobdaaW.PrintWords Go.Proofs.YtdkhnkbhgaobdaaW.PrintLast Go.Proofs.YtdkhnkbhgaobdaaW.PrintMore
set_option linter.unusedVariables false
set_option linter.unusedSimpArgs false

/-- Numbers without a sign, of 64 bits. -/
def Us (l : List Int) : Prop := ∀ x ∈ l, 0 ≤ x ∧ x < 18446744073709551616
theorem us_of {l : List Int} (h : ∀ x ∈ l, (Lit.int .u64 x).wf = true) : Us l := fun x hx => wfu64 (h x hx)
theorem Us.tail {a : Int} {l : List Int} (h : Us (a :: l)) : Us l := fun x hx => h x (List.mem_cons_of_mem _ hx)
theorem Us.head {a : Int} {l : List Int} (h : Us (a :: l)) : 0 ≤ a ∧ a < 18446744073709551616 := h a List.mem_cons_self
theorem Us.right {a b : List Int} (h : Us (a ++ b)) : Us b := fun x hx => h x (List.mem_append_right _ hx)
theorem Us.left {a b : List Int} (h : Us (a ++ b)) : Us a := fun x hx => h x (List.mem_append_left _ hx)
theorem Us.append {a b : List Int} (ha : Us a) (hb : Us b) : Us (a ++ b) := fun x hx => by
  rcases List.mem_append.mp hx with h | h
  · exact ha x h
  · exact hb x h
/-- What Encode writes of numbers, so many of the first one's run being past. -/
def enc : Nat → List Int → List Int
  | _, [] => []
  | n, [v] => vn v.toNat ++ vn n
  | n, v :: u :: t => if u = v then enc (n + 1) (u :: t) else vn v.toNat ++ vn n ++ enc 0 (u :: t)
theorem enc_run (v : Int) (t : List Int) (ht : t.head? ≠ some v) : ∀ (c n : Nat), enc n (List.replicate (c + 1) v ++ t) = vn v.toNat ++ vn (n + c) ++ enc 0 t
  | 0, n => by
    cases t with
    | nil => simp [enc]
    | cons u t =>
      have hu : ¬ u = v := fun e => ht (by rw [e]; rfl)
      show enc n (v :: u :: t) = _
      rw [enc, if_neg hu]
      rfl
  | c + 1, n => by
    show enc n (v :: v :: (List.replicate c v ++ t)) = _
    rw [enc, if_pos rfl]
    have := enc_run v t ht c (n + 1)
    rw [show n + 1 + c = n + (c + 1) by omega] at this
    exact this
/-- Every list is made of runs. -/
theorem run_split (v : Int) : ∀ t : List Int, ∃ (c : Nat) (r : List Int), v :: t = List.replicate (c + 1) v ++ r ∧ r.head? ≠ some v ∧ r.length ≤ t.length
  | [] => ⟨0, [], rfl, by simp, Nat.le_refl _⟩
  | u :: t => by
    by_cases h : u = v
    · subst h
      obtain ⟨c, r, e, hr, hl⟩ := run_split u t
      exact ⟨c + 1, r, by rw [e]; rfl, hr, by simp; omega⟩
    · exact ⟨0, u :: t, rfl, by simpa using h, Nat.le_refl _⟩
theorem run_ind {P : List Int → Prop} (h0 : P []) (hs : ∀ (v : Int) (c : Nat) (t : List Int), t.head? ≠ some v → P t → P (List.replicate (c + 1) v ++ t)) : ∀ l, P l := by
  intro l
  induction hn : l.length using Nat.strongRecOn generalizing l with
  | _ n ih =>
    cases l with
    | nil => exact h0
    | cons v t =>
      obtain ⟨c, r, e, hr, hl⟩ := run_split v t
      rw [e]
      exact hs v c r hr (ih r.length (by simp at hn; omega) r rfl)
theorem enc_length : ∀ (l : List Int) (n : Nat), Us l → n + l.length < 18446744073709551616 → (enc n l).length ≤ 20 * l.length
  | [], _, _, _ => by simp [enc]
  | [v], n, hu, hn => by
    have h1 := vn_len10 v.toNat (by have := hu.head; omega)
    have h2 := vn_len10 n (by simp at hn; omega)
    simp only [enc, List.length_append, List.length_cons, List.length_nil]
    omega
  | v :: u :: t, n, hu, hn => by
    have ih := fun m => enc_length (u :: t) m hu.tail
    rw [enc]
    have h1 := vn_len10 v.toNat (by have := hu.head; omega)
    have h2 := vn_len10 n (by simp at hn; omega)
    split
    · have := ih (n + 1) (by simp at hn ⊢; omega)
      simp at this ⊢
      omega
    · have := ih 0 (by simp at hn ⊢; omega)
      simp only [List.length_append, List.length_cons] at this ⊢
      omega
theorem enc_bytes : ∀ (l : List Int) (n : Nat), Bytes (enc n l)
  | [], _ => Bytes.nil
  | [v], n => Bytes.append (vn_byte _) (vn_byte _)
  | v :: u :: t, n => by
    rw [enc]
    split
    · exact enc_bytes (u :: t) (n + 1)
    · exact Bytes.append (Bytes.append (vn_byte _) (vn_byte _)) (enc_bytes (u :: t) 0)
/-! what the printed functions come to -/
theorem Enc_loop (l : List Int) (hu : Us l) (hl : l.length ≤ 65536) (d : Nat) : ∀ (i n : Nat) (out : List Int), i + d = l.length → n ≤ i → out.length ≤ 20 * i → Evn (fun k => runs_Encode.l0 k l out (n : Int) l (l.length : Int) (i : Int)) (out ++ enc n (l.drop i), 0) := by
  induction d with
  | zero =>
    intro i n out hi hn ho
    refine Evn.succ (Evn.pure _) fun k => ?_
    simp only [runs_Encode.l0]
    rw [if_neg (by omega), List.drop_of_length_le (by omega)]
    simp [enc]
  | succ d ih =>
    intro i n out hi hn ho
    have hlt : i < l.length := by omega
    have hd : l.drop i = rd l (i : Int) :: l.drop (i + 1) := by
      rw [List.drop_eq_getElem_cons hlt, rd_nat, List.getD_eq_getElem?_getD, List.getElem?_eq_getElem hlt]
      rfl
    have hv := hu _ (rd_mem l (i : Int) (by omega) (by omega))
    have w1 : wrap64 ((i : Int) + 1) = ((i + 1 : Nat) : Int) := by rw [wrap64_id (by omega) (by omega)]; rfl
    have hA : out.length + 20 < 140737488355328 := by omega
    have hout2 : Evn (fun k => (varint_Append.f k out (rd l (i : Int))).bind fun t127 => ((varint_Append.f k t127 (n : Int)).bind fun t130 => (runs_Encode.l0 k l t130 0 l (l.length : Int) ((i + 1 : Nat) : Int)))) (out ++ vn (rd l (i : Int)).toNat ++ vn n ++ enc 0 (l.drop (i + 1)), 0) := by
      have h1 := vn_len10 (rd l (i : Int)).toNat (by omega)
      have h2 := vn_len10 n (by omega)
      refine Evn.bind (Append_ev out _ (by omega) hv.1 hv.2) ?_
      refine Evn.bind (Append_nat _ n (by rw [List.length_append]; omega) (by omega)) ?_
      exact ih (i + 1) 0 _ (by omega) (by omega) (by simp only [List.length_append]; omega)
    by_cases h2 : i + 1 < l.length
    · have hd2 : l.drop (i + 1) = rd l ((i + 1 : Nat) : Int) :: l.drop (i + 2) := by
        rw [List.drop_eq_getElem_cons h2, rd_nat, List.getD_eq_getElem?_getD, List.getElem?_eq_getElem h2]
        rfl
      by_cases he : rd l ((i + 1 : Nat) : Int) = rd l (i : Int)
      · refine Evn.succ (G := fun k => runs_Encode.j1 k l out (n : Int) (rd l (i : Int)) l (l.length : Int) (i : Int) true) ?_ fun k => ?_
        · have hih := ih (i + 1) (n + 1) out (by omega) (by omega) (by omega)
          rw [hd, hd2, enc, if_pos he, ← hd2]
          refine Evn.succ hih fun k => ?_
          simp only [runs_Encode.j1]
          rw [if_pos trivial, w1, k64_id _ (by omega) (by omega)]
          rfl
        · simp only [runs_Encode.l0]
          rw [if_pos (by omega), if_pos (by omega), if_pos (by omega), w1, if_pos (by omega), if_pos (by omega), he]
          simp
      · refine Evn.succ (G := fun k => runs_Encode.j1 k l out (n : Int) (rd l (i : Int)) l (l.length : Int) (i : Int) false) ?_ fun k => ?_
        · rw [hd, hd2, enc, if_neg he, ← hd2, ← List.append_assoc, ← List.append_assoc]
          refine Evn.succ hout2 fun k => ?_
          simp only [runs_Encode.j1]
          rw [if_neg (by decide), w1]
        · simp only [runs_Encode.l0]
          rw [if_pos (by omega), if_pos (by omega), if_pos (by omega), w1, if_pos (by omega), if_pos (by omega), beq_eq_false_iff_ne.mpr he]
    · refine Evn.succ (G := fun k => runs_Encode.j1 k l out (n : Int) (rd l (i : Int)) l (l.length : Int) (i : Int) false) ?_ fun k => ?_
      · have hd2 : l.drop (i + 1) = [] := List.drop_of_length_le (by omega)
        rw [hd, hd2, enc]
        rw [hd2, enc, List.append_nil, List.append_assoc] at hout2
        refine Evn.succ hout2 fun k => ?_
        simp only [runs_Encode.j1]
        rw [if_neg (by decide), w1]
      · simp only [runs_Encode.l0]
        rw [if_pos (by omega), if_pos (by omega), if_pos (by omega), w1, if_neg (by omega)]
theorem Enc_ev (l : List Int) (hu : Us l) (hl : l.length ≤ 65536) : Evn (fun k => runs_Encode.f k l) (enc 0 l, 0) := by
  unfold runs_Encode.f
  refine Evn.neg (by omega) ?_
  have := Enc_loop l hu hl l.length 0 0 [] (by omega) (by omega) (by simp)
  simpa using this
theorem Enc_long (l : List Int) (hl : 65536 < l.length) : Evn (fun k => runs_Encode.f k l) ([], 4) := by
  unfold runs_Encode.f
  exact Evn.pos (by omega) (Evn.pure _)
/-! the document's Encode -/
theorem rEnc_inner (l : List Int) (hu : Us l) (hl : l.length ≤ 65536) (out : List Int) (i : Nat) (hi : i < l.length) (ho : out.length ≤ 20 * i) (c : Nat) (t : List Int) (ht : t.head? ≠ some (rd l (i : Int))) (hd : l.drop i = List.replicate (c + 1) (rd l (i : Int)) ++ t)
    (hnext : ∀ out' : List Int, out'.length ≤ 20 * (i + c + 1) → Evn (fun k => casketref07_Encode.l0 k l out' ((i + c + 1 : Nat) : Int)) (out' ++ enc 0 t, 0)) (d : Nat) : ∀ j, j + d = c + 1 → Evn (fun k => casketref07_Encode.l1 k l out (i : Int) ((i + j : Nat) : Int)) (out ++ (vn (rd l (i : Int)).toNat ++ vn c ++ enc 0 t), 0) := by
  have hlen : l.length = i + (c + 1) + t.length := by
    have := congrArg List.length hd
    simp at this
    omega
  have hv := hu _ (rd_mem l (i : Int) (by omega) (by omega))
  have h1 := vn_len10 (rd l (i : Int)).toNat (by omega)
  have h2 := vn_len10 c (by omega)
  have hget : ∀ j, j < c + 1 → rd l ((i + j : Nat) : Int) = rd l (i : Int) := by
    intro j hj
    have e : rd (l.drop i) (j : Int) = rd l ((j : Int) + (i : Nat)) := rd_drop l i (j : Int) (by omega)
    rw [hd, rd_left _ _ _ (by omega) (by simp; omega), rd_nat, List.getD_eq_getElem?_getD, List.getElem?_replicate, if_pos hj] at e
    rw [show ((i + j : Nat) : Int) = (j : Int) + (i : Nat) by omega, ← e]
    rfl
  have hput : Evn (fun k => (casketref02_Append.f k out (rd l (i : Int))).bind fun t181 => ((casketref02_Append.f k t181 (c : Int)).bind fun t184 => (casketref07_Encode.l0 k l t184 ((i + c + 1 : Nat) : Int)))) (out ++ (vn (rd l (i : Int)).toNat ++ vn c ++ enc 0 t), 0) := by
    refine Evn.bind (rAppend_ev out _ (by omega) hv.1 hv.2) ?_
    refine Evn.bind (rAppend_nat _ c (by rw [List.length_append]; omega) (by omega)) ?_
    have := hnext (out ++ vn (rd l (i : Int)).toNat ++ vn c) (by simp only [List.length_append]; omega)
    simpa [List.append_assoc] using this
  have w3 : IntKind.u64.wrap (wrap64 ((wrap64 (((i + (c + 1) : Nat) : Int) - (i : Int))) - 1)) = (c : Int) := by
    rw [wrap64_id (n := ((i + (c + 1) : Nat) : Int) - (i : Int)) (by omega) (by omega), wrap64_id (by omega) (by omega), k64_id _ (by omega) (by omega)]
    omega
  induction d with
  | zero =>
    intro j hj
    have hj : j = c + 1 := by omega
    subst hj
    refine Evn.succ hput fun k => ?_
    simp only [casketref07_Encode.l1]
    by_cases hend : i + (c + 1) < l.length
    · have hne : ¬ rd l ((i + (c + 1) : Nat) : Int) = rd l (i : Int) := by
        intro e
        apply ht
        have e2 : rd (l.drop i) ((c + 1 : Nat) : Int) = rd l (((c + 1 : Nat) : Int) + (i : Nat)) := rd_drop l i ((c + 1 : Nat) : Int) (by omega)
        rw [hd, rd_right _ _ _ (by simp), show (((c + 1 : Nat) : Int) + (i : Nat)) = ((i + (c + 1) : Nat) : Int) by omega, e] at e2
        simp at e2
        cases t with
        | nil => simp at hlen; omega
        | cons u t => rw [← e2]; rfl
      rw [if_pos (by omega), if_pos (by omega), if_pos (by omega), if_pos (by omega), if_neg hne, w3]
      rfl
    · rw [if_neg (by omega), if_pos (by omega), if_pos (by omega), w3]
      rfl
  | succ d ih =>
    intro j hj
    refine Evn.succ (ih (j + 1) (by omega)) fun k => ?_
    simp only [casketref07_Encode.l1]
    rw [if_pos (by omega), if_pos (by omega), if_pos (by omega), if_pos (by omega), if_pos (hget j (by omega)), show wrap64 (((i + j : Nat) : Int) + 1) = ((i + (j + 1) : Nat) : Int) by rw [wrap64_id (by omega) (by omega)]; omega]
theorem rEnc_loop (l : List Int) (hu : Us l) (hl : l.length ≤ 65536) : ∀ (t : List Int), ∀ (i : Nat) (out : List Int), l.drop i = t → i + t.length = l.length → out.length ≤ 20 * i → Evn (fun k => casketref07_Encode.l0 k l out (i : Int)) (out ++ enc 0 t, 0) := by
  refine run_ind ?_ ?_
  · intro i out hd hi ho
    refine Evn.succ (Evn.pure _) fun k => ?_
    simp only [casketref07_Encode.l0]
    rw [if_neg (by simp at hi; omega)]
    simp [enc]
  · intro v c t ht ih i out hd hi ho
    simp only [List.length_append, List.length_replicate] at hi
    have hv : v = rd l (i : Int) := by
      have e : rd (l.drop i) (0 : Int) = rd l ((0 : Int) + (i : Nat)) := rd_drop l i 0 (by omega)
      rw [hd] at e
      rw [Int.zero_add] at e
      rw [← e]
      rfl
    subst hv
    refine Evn.succ (rEnc_inner l hu hl out i (by omega) ho c t ht hd ?_ (c + 1) 0 (by omega) |>.eq ?_) fun k => ?_
    · intro out' ho'
      refine ih (i + c + 1) out' ?_ (by omega) ho'
      rw [show i + c + 1 = i + (c + 1) by omega, ← List.drop_drop, hd, List.drop_left' (by simp)]
    · rw [enc_run _ t ht c 0, Nat.zero_add]
    · simp only [casketref07_Encode.l0]
      rw [if_pos (by omega)]
      rfl
theorem rEnc_ev (l : List Int) (hu : Us l) (hl : l.length ≤ 65536) : Evn (fun k => casketref07_Encode.f k l) (enc 0 l, 0) := by
  unfold casketref07_Encode.f
  refine Evn.neg (by omega) ?_
  have := rEnc_loop l hu hl l 0 [] rfl (by omega) (by simp)
  simpa using this
theorem rEnc_long (l : List Int) (hl : 65536 < l.length) : Evn (fun k => casketref07_Encode.f k l) ([], 4) := by
  unfold casketref07_Encode.f
  exact Evn.pos (by omega) (Evn.pure _)
end Go.Proofs.Ytdkhnkbhgaobdaa.Runs
