/- Varints as plain lists; what the printed functions of layers 1 and 2 (Same, Append, Size, Read) come to. -/
import Derived.Test.YtfcllbkjhiendaaBits
import Derived.Test.YtfcllbkjhiendaaPx3
namespace Go.Proofs.Ytfcllbkjhiendaa.Var
open Go.RowKit Go.Proofs.Ytfcllbkjhiendaa.P Go.Proofs.Ytfcllbkjhiendaa.Kit Go.Proofs.YtfcllbkjhiendaaW.PrintWords Go.Proofs.YtfcllbkjhiendaaW.PrintLast Go.Proofs.YtfcllbkjhiendaaW.PrintMore
set_option linter.unusedVariables false
set_option linter.unusedSimpArgs false

/-! lists of bytes that are the same -/
theorem Same_loop (a b : List Int) (hl : a.length = b.length) (hs : a.length < 140737488355328) (d i : Nat) (hi : i + d = a.length) (h : a.take i = b.take i) : Evn (fun k => casketref01_Same.l0 k a b (i : Int)) (decide (a = b)) := by
  induction d generalizing i with
  | zero =>
    refine Evn.succ (G := fun _ => some true) ?_ fun k => ?_
    · refine (Evn.pure true).eq ?_
      rw [List.take_of_length_le (by omega), List.take_of_length_le (by omega)] at h
      simp [h]
    · simp only [casketref01_Same.l0]
      rw [if_neg (by omega)]
  | succ d ih =>
    by_cases he : rd a (i : Int) = rd b (i : Int)
    · refine Evn.succ (ih (i + 1) (by omega) ?_) fun k => ?_
      · rw [List.take_add_one, List.take_add_one, h]
        have h1 : i < a.length := by omega
        have h2 : i < b.length := by omega
        simp only [rd_nat, List.getD_eq_getElem?_getD, List.getElem?_eq_getElem h1, List.getElem?_eq_getElem h2, Option.getD_some] at he
        rw [List.getElem?_eq_getElem h1, List.getElem?_eq_getElem h2, he]
      · simp only [casketref01_Same.l0]
        rw [if_pos (by omega), if_pos (by omega), if_pos (by omega), if_pos he, show wrap64 ((i : Int) + 1) = ((i + 1 : Nat) : Int) by unfold wrap64; omega]
    · refine Evn.succ (G := fun _ => some false) ?_ fun k => ?_
      · refine (Evn.pure false).eq ?_
        have : a ≠ b := fun e => he (by rw [e])
        simp [this]
      · simp only [casketref01_Same.l0]
        rw [if_pos (by omega), if_pos (by omega), if_pos (by omega), if_neg he]
theorem Same_ev (a b : List Int) (hs : a.length < 140737488355328) : Evn (fun k => casketref01_Same.f k a b) (decide (a = b)) := by
  unfold casketref01_Same.f
  by_cases hl : a.length = b.length
  · refine Evn.pos (by omega) ?_
    exact Same_loop a b hl hs a.length 0 (by omega) (by simp)
  · refine Evn.neg (by omega) ?_
    refine (Evn.pure false).eq ?_
    have : a ≠ b := fun e => hl (by rw [e])
    simp [this]
theorem Same_self (a : List Int) (hs : a.length < 140737488355328) : Evn (fun k => casketref01_Same.f k a a) true := (Same_ev a a hs).eq (by simp)

/-! varints -/
/-- The bytes of a number. -/
def vn (v : Nat) : List Int := if h : 128 ≤ v then ((v % 128 + 128 : Nat) : Int) :: vn (v / 128) else [(v : Int)]
termination_by v
decreasing_by omega
theorem vn_big (v : Nat) (h : 128 ≤ v) : vn v = ((v % 128 + 128 : Nat) : Int) :: vn (v / 128) := by
  rw [vn, dif_pos h]
theorem vn_small (v : Nat) (h : v < 128) : vn v = [(v : Int)] := by
  rw [vn, dif_neg (by omega)]
theorem vn_pos (v : Nat) : 1 ≤ (vn v).length := by
  rcases Nat.lt_or_ge v 128 with h | h
  · rw [vn_small v h]
    simp
  · rw [vn_big v h]
    simp
theorem vn_le (n v : Nat) (hv : v < 128 ^ n) (hn : 1 ≤ n) : (vn v).length ≤ n := by
  induction n generalizing v with
  | zero => omega
  | succ n ih =>
    rcases Nat.lt_or_ge v 128 with h | h
    · rw [vn_small v h]
      simp
    · rw [vn_big v h, List.length_cons]
      have h1 : v / 128 < 128 ^ n := by
        rw [Nat.pow_succ] at hv
        omega
      have hn1 : 1 ≤ n := by
        rcases Nat.eq_zero_or_pos n with e | e
        · subst e
          simp at hv
          omega
        · exact e
      have := ih (v / 128) h1 hn1
      omega
theorem vn_len10 (v : Nat) (hv : v < 18446744073709551616) : (vn v).length ≤ 10 := vn_le 10 v (by omega) (by omega)
theorem vn_mono (v : Nat) : ∀ w, w ≤ v → (vn w).length ≤ (vn v).length := by
  induction v using Nat.strongRecOn with
  | _ v ih =>
    intro w hw
    rcases Nat.lt_or_ge w 128 with h | h
    · rw [vn_small w h]
      exact vn_pos v
    · rw [vn_big w h, vn_big v (by omega), List.length_cons, List.length_cons]
      have := ih (v / 128) (by omega) (w / 128) (by omega)
      omega
theorem vn_byte (v : Nat) : ∀ x ∈ vn v, 0 ≤ x ∧ x < 256 := by
  induction v using Nat.strongRecOn with
  | _ v ih =>
    intro x hx
    rcases Nat.lt_or_ge v 128 with h | h
    · rw [vn_small v h, List.mem_singleton] at hx
      omega
    · rw [vn_big v h] at hx
      rcases List.mem_cons.1 hx with e | e
      · omega
      · exact ih (v / 128) (by omega) x e
theorem clone_f (l : List Int) (h : l.length < 140737488355328) : slices_Clone_byte_byte.f l = some l := by
  unfold slices_Clone_byte_byte.f
  simp [h]
/-! reading -/
/-- What is read, from byte i on, acc having been read. -/
def vread : List Int → Nat → Int → Int × Int × Int
  | [], _, _ => (0, 0, 2)
  | x :: t, i, acc => if i = 9 ∧ 1 < x then (0, 0, 3) else if 128 ≤ x then vread t (i + 1) (acc + (x - 128) * 2 ^ (7 * i)) else if x = 0 ∧ 0 < i then (0, 0, 3) else (acc + x * 2 ^ (7 * i), ((i + 1 : Nat) : Int), 0)
def Bytes (b : List Int) : Prop := ∀ x ∈ b, 0 ≤ x ∧ x < 256
theorem bytes_of {b : List Int} (h : ∀ x ∈ b, (Lit.int .u8 x).wf = true) : Bytes b := fun x hx => wfu8 (h x hx)
theorem Bytes.take {b : List Int} (h : Bytes b) (n : Nat) : Bytes (b.take n) := fun x hx => h x (List.mem_of_mem_take hx)
theorem Bytes.drop {b : List Int} (h : Bytes b) (n : Nat) : Bytes (b.drop n) := fun x hx => h x (List.mem_of_mem_drop hx)
theorem Bytes.append {a b : List Int} (ha : Bytes a) (hb : Bytes b) : Bytes (a ++ b) := fun x hx => by
  rcases List.mem_append.1 hx with h | h
  · exact ha x h
  · exact hb x h
theorem Bytes.tail {a : Int} {b : List Int} (h : Bytes (a :: b)) : Bytes b := fun x hx => h x (List.mem_cons_of_mem _ hx)
theorem Bytes.nil : Bytes [] := fun x hx => by cases hx
/-- Powers of 128, each by its number. -/
theorem p7 (i : Nat) (h : i ≤ 9) : ((2 : Int) ^ (7 * i)) * 128 = 2 ^ (7 * (i + 1)) ∧ 1 ≤ (2 : Int) ^ (7 * i) ∧ (2 : Int) ^ (7 * i) ≤ 9223372036854775808 := by
  have : ∀ i : Fin 10, ((2 : Int) ^ (7 * (i : Nat))) * 128 = 2 ^ (7 * ((i : Nat) + 1)) ∧ 1 ≤ (2 : Int) ^ (7 * (i : Nat)) ∧ (2 : Int) ^ (7 * (i : Nat)) ≤ 9223372036854775808 := by decide +kernel
  exact this ⟨i, by omega⟩
theorem p7' (i : Nat) (h : i ≤ 8) : (2 : Int) ^ (7 * i) ≤ 72057594037927936 := by
  have : ∀ i : Fin 9, (2 : Int) ^ (7 * (i : Nat)) ≤ 72057594037927936 := by decide +kernel
  exact this ⟨i, by omega⟩
theorem vread_take (b : List Int) (hb : Bytes b) (m i : Nat) (acc : Int) (hi : i ≤ 9) (hm : 10 ≤ m + i) : vread (b.take m) i acc = vread b i acc := by
  induction b generalizing m i acc with
  | nil => simp
  | cons x t ih =>
    obtain ⟨m, rfl⟩ : ∃ q, m = q + 1 := ⟨m - 1, by omega⟩
    rw [List.take_succ_cons, vread, vread]
    by_cases c1 : i = 9 ∧ 1 < x
    · rw [if_pos c1, if_pos c1]
    · rw [if_neg c1, if_neg c1]
      by_cases c2 : 128 ≤ x
      · rw [if_pos c2, if_pos c2, ih hb.tail m (i + 1) _ (by omega) (by omega)]
      · rw [if_neg c2, if_neg c2]
theorem vread_err (b : List Int) (i : Nat) (acc : Int) : (vread b i acc).2.2 = 0 ∨ (vread b i acc).1 = 0 ∧ (vread b i acc).2.1 = 0 ∧ ((vread b i acc).2.2 = 2 ∨ (vread b i acc).2.2 = 3) := by
  induction b generalizing i acc with
  | nil => right; simp [vread]
  | cons x t ih =>
    rw [vread]
    by_cases c1 : i = 9 ∧ 1 < x
    · rw [if_pos c1]
      right
      simp
    · rw [if_neg c1]
      by_cases c2 : 128 ≤ x
      · rw [if_pos c2]
        exact ih _ _
      · rw [if_neg c2]
        by_cases c3 : x = 0 ∧ 0 < i
        · rw [if_pos c3]
          right
          simp
        · rw [if_neg c3]
          left
          rfl
/-- What was written is read, whatever stands behind it. -/
theorem vread_vn (v : Nat) : ∀ (i : Nat) (acc : Int) (rest : List Int), i ≤ 9 → (v : Int) * 2 ^ (7 * i) < 18446744073709551616 → (0 < i → 0 < v) → vread (vn v ++ rest) i acc = (acc + (v : Int) * 2 ^ (7 * i), ((i + (vn v).length : Nat) : Int), 0) := by
  induction v using Nat.strongRecOn with
  | _ v ih =>
    intro i acc rest hi hv hp
    obtain ⟨q1, q2, q3⟩ := p7 i hi
    have h9 : i = 9 → v < 2 := fun e => by
      subst e
      have : (2 : Int) ^ (7 * 9) = 9223372036854775808 := by decide
      rw [this] at hv
      omega
    rcases Nat.lt_or_ge v 128 with h | h
    · rw [vn_small v h, List.singleton_append, vread, if_neg (by omega), if_neg (by omega), if_neg (by omega)]
      rfl
    · have hi9 : i < 9 := by
        rcases Nat.lt_or_ge i 9 with c | c
        · exact c
        · have := h9 (by omega)
          omega
      have e : (v : Int) = ((v % 128 : Nat) : Int) + 128 * ((v / 128 : Nat) : Int) := by omega
      have hstep : ((v / 128 : Nat) : Int) * 2 ^ (7 * (i + 1)) ≤ (v : Int) * 2 ^ (7 * i) := by
        rw [← q1]
        have : ((v / 128 : Nat) : Int) * 128 ≤ (v : Int) := by omega
        calc ((v / 128 : Nat) : Int) * (2 ^ (7 * i) * 128) = ((v / 128 : Nat) : Int) * 128 * 2 ^ (7 * i) := by rw [Int.mul_comm (2 ^ (7 * i)) 128, ← Int.mul_assoc]
          _ ≤ (v : Int) * 2 ^ (7 * i) := Int.mul_le_mul_of_nonneg_right this (by omega)
      rw [vn_big v h, List.cons_append, vread, if_neg (by omega), if_pos (by omega), ih (v / 128) (by omega) (i + 1) _ rest (by omega) (by omega) (by omega)]
      refine Prod.ext ?_ (Prod.ext ?_ rfl)
      · show acc + (((v % 128 + 128 : Nat) : Int) - 128) * 2 ^ (7 * i) + ((v / 128 : Nat) : Int) * 2 ^ (7 * (i + 1)) = acc + (v : Int) * 2 ^ (7 * i)
        rw [← q1, show ((v % 128 + 128 : Nat) : Int) - 128 = ((v % 128 : Nat) : Int) by omega]
        generalize (2 : Int) ^ (7 * i) = p
        rw [e, Int.add_mul, Int.mul_comm p 128, ← Int.mul_assoc, Int.mul_comm 128 ((v / 128 : Nat) : Int)]
        omega
      · show ((i + 1 + (vn (v / 128)).length : Nat) : Int) = ((i + (vn (v / 128)).length.succ : Nat) : Int)
        omega
/-- Cut off it is too short. -/
theorem vread_short (v : Nat) : ∀ (i : Nat) (acc : Int) (m : Nat), i ≤ 9 → (v : Int) * 2 ^ (7 * i) < 18446744073709551616 → m < (vn v).length → vread ((vn v).take m) i acc = (0, 0, 2) := by
  induction v using Nat.strongRecOn with
  | _ v ih =>
    intro i acc m hi hv hm
    cases m with
    | zero => simp [vread]
    | succ m =>
      rcases Nat.lt_or_ge v 128 with h | h
      · rw [vn_small v h] at hm
        simp at hm
      · obtain ⟨q1, q2, q3⟩ := p7 i hi
        have hi9 : i < 9 := by
          rcases Nat.lt_or_ge i 9 with c | c
          · exact c
          · have : i = 9 := by omega
            subst this
            have : (2 : Int) ^ (7 * 9) = 9223372036854775808 := by decide
            rw [this] at hv
            omega
        have hstep : ((v / 128 : Nat) : Int) * 2 ^ (7 * (i + 1)) ≤ (v : Int) * 2 ^ (7 * i) := by
          rw [← q1]
          have : ((v / 128 : Nat) : Int) * 128 ≤ (v : Int) := by omega
          calc ((v / 128 : Nat) : Int) * (2 ^ (7 * i) * 128) = ((v / 128 : Nat) : Int) * 128 * 2 ^ (7 * i) := by rw [Int.mul_comm (2 ^ (7 * i)) 128, ← Int.mul_assoc]
            _ ≤ (v : Int) * 2 ^ (7 * i) := Int.mul_le_mul_of_nonneg_right this (by omega)
        rw [vn_big v h] at hm ⊢
        rw [List.take_succ_cons, vread, if_neg (by omega), if_pos (by omega), ih (v / 128) (by omega) (i + 1) _ m (by omega) (by omega) (by simpa using hm)]
/-- ONE WAY ALONE: what is read was written so. -/
theorem vread_only (b : List Int) : ∀ (i : Nat) (acc r n : Int), Bytes b → i ≤ 9 → vread b i acc = (r, n, 0) → ∃ u : Nat, r = acc + (u : Int) * 2 ^ (7 * i) ∧ n = ((i + (vn u).length : Nat) : Int) ∧ (vn u).length ≤ b.length ∧ b.take (vn u).length = vn u ∧ (0 < i → 0 < u) ∧ (u : Int) * 2 ^ (7 * i) < 18446744073709551616 := by
  induction b with
  | nil => intro i acc r n _ _ h; simp [vread] at h
  | cons x t ih =>
    intro i acc r n hb hi h
    obtain ⟨hx0, hx1⟩ := hb x (List.mem_cons_self ..)
    obtain ⟨q1, q2, q3⟩ := p7 i hi
    rw [vread] at h
    by_cases c1 : i = 9 ∧ 1 < x
    · rw [if_pos c1] at h
      simp at h
    · rw [if_neg c1] at h
      by_cases c2 : 128 ≤ x
      · rw [if_pos c2] at h
        have hi9 : i < 9 := by omega
        have q4 := p7' i (by omega)
        obtain ⟨u, e1, e2, e3, e4, e5, e6⟩ := ih (i + 1) _ r n hb.tail (by omega) h
        have hu := e5 (by omega)
        have hbig : 128 ≤ (x - 128).toNat + 128 * u := by omega
        have hm : ((x - 128).toNat + 128 * u) % 128 = (x - 128).toNat := by omega
        have hd : ((x - 128).toNat + 128 * u) / 128 = u := by omega
        refine ⟨(x - 128).toNat + 128 * u, ?_, ?_, ?_, ?_, fun _ => by omega, ?_⟩
        · rw [e1, ← q1, show (((x - 128).toNat + 128 * u : Nat) : Int) = (x - 128) + 128 * (u : Int) by omega]
          generalize (2 : Int) ^ (7 * i) = p
          rw [Int.add_mul, Int.mul_comm p 128, ← Int.mul_assoc, Int.mul_comm 128 (u : Int)]
          omega
        · rw [e2, vn_big _ hbig, hd, List.length_cons]
          omega
        · rw [vn_big _ hbig, hd, List.length_cons, List.length_cons]
          omega
        · rw [vn_big _ hbig, hd, hm, List.length_cons, List.take_succ_cons, e4]
          congr 1
          omega
        · rw [show (((x - 128).toNat + 128 * u : Nat) : Int) = (x - 128) + 128 * (u : Int) by omega]
          rw [← q1] at e6
          -- u * (p * 128) is below 2^64 and a multiple of p * 128 = 2^(7i+7), which divides 2^64
          have key : ∀ i : Fin 9, ∃ q : Int, q * ((2 : Int) ^ (7 * (i : Nat)) * 128) = 18446744073709551616 ∧ 0 < (2 : Int) ^ (7 * (i : Nat)) := by
            intro i
            refine ⟨18446744073709551616 / ((2 : Int) ^ (7 * (i : Nat)) * 128), ?_⟩
            revert i
            decide +kernel
          obtain ⟨q, hq, hp⟩ := key ⟨i, hi9⟩
          simp only at hq hp
          generalize (2 : Int) ^ (7 * i) = p at e6 hq hp ⊢
          have huq : (u : Int) < q := by
            rw [← hq] at e6
            exact Int.lt_of_mul_lt_mul_right e6 (by omega)
          have h3 : ((u : Int) + 1) * (p * 128) ≤ q * (p * 128) := Int.mul_le_mul_of_nonneg_right (by omega) (by omega)
          rw [hq, Int.add_mul, Int.one_mul] at h3
          have h4 : (x - 128) * p ≤ 127 * p := Int.mul_le_mul_of_nonneg_right (by omega) (by omega)
          rw [Int.add_mul, Int.mul_comm 128 (u : Int), Int.mul_assoc, Int.mul_comm 128 p]
          omega
      · rw [if_neg c2] at h
        by_cases c3 : x = 0 ∧ 0 < i
        · rw [if_pos c3] at h
          simp at h
        · rw [if_neg c3] at h
          simp only [Prod.mk.injEq, and_true] at h
          obtain ⟨rfl, rfl⟩ := h
          have hs := vn_small x.toNat (by omega)
          refine ⟨x.toNat, ?_, ?_, ?_, ?_, fun _ => by omega, ?_⟩
          · rw [show ((x.toNat : Nat) : Int) = x by omega]
          · rw [hs]
            rfl
          · rw [hs]
            simp
          · rw [hs]
            simp
            omega
          · rw [show ((x.toNat : Nat) : Int) = x by omega]
            rcases Nat.lt_or_ge i 9 with c | c
            · have q4 := p7' i (by omega)
              have h4 : x * 2 ^ (7 * i) ≤ 127 * 2 ^ (7 * i) := Int.mul_le_mul_of_nonneg_right (by omega) (by omega)
              omega
            · have : i = 9 := by omega
              subst this
              have : (2 : Int) ^ (7 * 9) = 9223372036854775808 := by decide
              rw [this]
              omega
theorem put7 (i : Nat) (acc y : Int) (hi : i ≤ 9) (hy0 : 0 ≤ y) (hy1 : y ≤ 127) (h9 : i = 9 → y ≤ 1) (ha0 : 0 ≤ acc) (ha1 : acc < 2 ^ (7 * i)) :
    shl .u64 (IntKind.u64.wrap y) (wrap64 (7 * (i : Int))) = y * 2 ^ (7 * i) ∧ Go.bits .or .u64 acc (y * 2 ^ (7 * i)) = acc + y * 2 ^ (7 * i) ∧ acc + y * 2 ^ (7 * i) < 18446744073709551616 ∧ 0 ≤ acc + y * 2 ^ (7 * i) ∧ acc + y * 2 ^ (7 * i) < 2 ^ (7 * (i + 1)) := by
  obtain ⟨q1, q2, q3⟩ := p7 i hi
  have hm0 : 0 ≤ y * 2 ^ (7 * i) := Int.mul_nonneg hy0 (by omega)
  have hm1 : y * 2 ^ (7 * i) ≤ 127 * 2 ^ (7 * i) := Int.mul_le_mul_of_nonneg_right hy1 (by omega)
  have hm2 : acc + y * 2 ^ (7 * i) < 18446744073709551616 := by
    rcases Nat.lt_or_ge i 9 with c | c
    · have q4 := p7' i (by omega)
      omega
    · have : i = 9 := by omega
      subst this
      have h9' := h9 rfl
      have e : (2 : Int) ^ (7 * 9) = 9223372036854775808 := by decide
      rw [e] at ha1 ⊢
      omega
  refine ⟨?_, ?_, hm2, by omega, by omega⟩
  · rw [k64_id y hy0 (by omega)]
    exact k_shl y _ (7 * i) (by unfold wrap64; omega) (by omega) hm0 (by omega)
  · exact k64_or_add (7 * i) acc _ ha0 ha1 hm0 (Int.mul_emod_left _ _) (by omega) (by omega)
end Go.Proofs.Ytfcllbkjhiendaa.Var
