/- Layer 6: what the document's Encode comes to. -/
import Derived.Test.YtfcllbkjhiendaaSEnc
import Derived.Test.YtfcllbkjhiendaaRefFix
import Derived.Lib.BitFns
import Derived.Test.YtfcllbkjhiendaaPx5
import Derived.Test.YtfcllbkjhiendaaPx6
namespace Go.Proofs.Ytfcllbkjhiendaa.Sim
open Go.RowKit Go.Proofs.Ytfcllbkjhiendaa.P Go.Proofs.Ytfcllbkjhiendaa.Kit Go.Proofs.Ytfcllbkjhiendaa.Var Go.Proofs.YtfcllbkjhiendaaW.PrintWords Go.Proofs.YtfcllbkjhiendaaW.PrintLast Go.Proofs.YtfcllbkjhiendaaW.PrintMore
set_option linter.unusedVariables false
set_option linter.unusedSimpArgs false

def Us (l : List Int) : Prop := ∀ x ∈ l, 0 ≤ x ∧ x < 18446744073709551616
theorem us_rd {l : List Int} (h : Us l) (i : Nat) (hi : i < l.length) : 0 ≤ rd l (i : Int) ∧ rd l (i : Int) < 18446744073709551616 := h _ (rd_mem l (i : Int) (by omega) (by omega))
theorem bl_half {n : Nat} (h : n ≠ 0) (hn : n < 18446744073709551616) : Lib.bitLen n = Lib.bitLen (n / 2) + 1 := by
  rw [Lib.bitLen_half n h hn]
  omega
theorem bl_lt (n : Nat) : ∀ w, n < 18446744073709551616 → Lib.bitLen n ≤ w → n < 2 ^ w := by
  induction n using Nat.strongRecOn with
  | _ n ih =>
    intro w hn h
    rcases Nat.eq_zero_or_pos n with rfl | h0
    · exact Nat.two_pow_pos w
    · rw [bl_half (by omega) hn] at h
      obtain ⟨m, rfl⟩ : ∃ m, w = m + 1 := ⟨w - 1, by omega⟩
      have := ih (n / 2) (by omega) m (by omega) (by omega)
      rw [Nat.pow_succ]
      omega
theorem bl_iff (v : Int) (w : Nat) (hw : w ≤ 64) (h0 : 0 ≤ v) (h1 : v < 18446744073709551616) : (Lib.bitLen v.toNat : Int) > (w : Int) ↔ ¬ v < 2 ^ w := by
  have e : v = (v.toNat : Int) := by omega
  constructor
  · intro h hv
    rw [e] at hv
    have := Lib.bitLen_le v.toNat w hw (by exact_mod_cast hv)
    omega
  · intro h
    by_cases c : Lib.bitLen v.toNat ≤ w
    · exfalso
      apply h
      rw [e]
      exact_mod_cast bl_lt v.toNat w (by omega) c
    · omega
theorem rWidth_loop (n : Nat) : ∀ acc : Nat, n < 18446744073709551616 → acc + Lib.bitLen n ≤ 64 → Evn (fun k => casketref01_Width.l0 k (n : Int) (acc : Int)) ((acc + Lib.bitLen n : Nat) : Int) := by
  induction n using Nat.strongRecOn with
  | _ n ih =>
    intro acc hn ha
    rcases Nat.eq_zero_or_pos n with rfl | h0
    · refine Evn.round ?_
      simp only [casketref01_Width.l0]
      refine Evn.neg (by omega) (Evn.pure _)
    · have e := bl_half (n := n) (by omega) hn
      have ed : IntKind.u64.wrap (Int.tdiv (n : Int) 2) = ((n / 2 : Nat) : Int) := by
        rw [k_tdiv _ _ (by omega), k64_id _ (by omega) (by omega)]
        omega
      refine Evn.round ?_
      simp only [casketref01_Width.l0]
      refine Evn.pos (by omega) ?_
      rw [ed, show wrap64 ((acc : Int) + 1) = ((acc + 1 : Nat) : Int) by rw [wrap64_id (by omega) (by omega)]; omega, show acc + Lib.bitLen n = acc + 1 + Lib.bitLen (n / 2) by omega]
      exact ih (n / 2) (by omega) (acc + 1) (by omega) (by omega)
theorem rWidth_ev (v : Int) (h0 : 0 ≤ v) (h1 : v < 18446744073709551616) : Evn (fun k => casketref01_Width.f k v) (Lib.bitLen v.toNat : Int) := by
  have := rWidth_loop v.toNat 0 (by omega) (by have := Lib.bitLen_le v.toNat 64 (by omega) (by omega); omega)
  rw [show ((v.toNat : Nat) : Int) = v by omega, Nat.zero_add] at this
  exact this
theorem rRoom_f (s : Nat) (hs : s < 16) : casketref06_Room.f (s : Int) = some ((nn s : Int), (ww s : Int)) := by
  have key : ∀ s : Fin 16, casketref06_Room.f ((s : Nat) : Int) = some ((nn (s : Nat) : Int), (ww (s : Nat) : Int)) := by decide +kernel
  exact key ⟨s, hs⟩
theorem room_same (s : Int) : casketref06_Room.f s = simple_Room.f s := by
  by_cases c : 0 ≤ s ∧ s < 16
  · obtain ⟨n, rfl⟩ := Int.eq_ofNat_of_zero_le c.1
    rw [rRoom_f n (by omega), room_f n (by omega)]
  · unfold casketref06_Room.f simple_Room.f
    simp only [Option.bind_some]
    by_cases c0 : s < 0
    · rw [if_pos c0, if_pos c0, if_pos c0]
    · rw [if_neg c0, if_pos (by omega), if_neg c0, if_neg c0, if_pos (by omega), if_pos (by omega)]
theorem wrap_n (n : Nat) (h : n < 140737488355328) : wrap64 ((n : Int) + 1) = ((n + 1 : Nat) : Int) := by
  rw [wrap64_id (by omega) (by omega)]
  omega
theorem wf_b (i w : Nat) (h : (i + 1) * w ≤ 60) : wrap64 (((i + 1 : Nat) : Int) * (w : Int)) = (((i + 1) * w : Nat) : Int) := by
  rw [show ((i + 1 : Nat) : Int) * (w : Int) = (((i + 1) * w : Nat) : Int) by simp]
  exact wrap64_id (by omega) (by omega)
theorem wf_c (m : Nat) (h : m ≤ 60) : wrap64 (60 - (m : Int)) = ((60 - m : Nat) : Int) := by
  rw [wrap64_id (by omega) (by omega)]
  omega
theorem wf_d (m : Nat) (h : m ≤ 60) : IntKind.u64.wrap (wrap64 (60 - (m : Int))) = ((60 - m : Nat) : Int) := by
  rw [wf_c m h]
  exact k64_id _ (by omega) (by omega)
theorem wf_e (m : Nat) (h : m ≤ 60) : IntKind.u64.wrap (wrap64 (64 - (m : Int))) = ((60 - m + 4 : Nat) : Int) := by
  rw [wrap64_id (by omega) (by omega), k64_id _ (by omega) (by omega)]
  omega
theorem rfits_loop (l : List Int) (hu : Us l) (n w : Nat) (hn : n ≤ l.length) (hw : w ≤ 60) (hl : l.length < 140737488355328) (d : Nat) : ∀ i, i + d = n → Evn (fun k => casketref06_fits.l0 k l (n : Int) (w : Int) (i : Int)) (fitsN l w d i) := by
  induction d with
  | zero =>
    intro i hi
    refine Evn.round ?_
    simp only [casketref06_fits.l0]
    exact Evn.neg (by omega) (Evn.pure _)
  | succ d ih =>
    intro i hi
    obtain ⟨u0, u1⟩ := us_rd hu i (by omega)
    have e1 := wrap_n i (by omega)
    refine Evn.round ?_
    simp only [casketref06_fits.l0, e1]
    clear e1
    refine Evn.pos (by omega) (Evn.pos (by omega) (Evn.pos (by omega) (Evn.bind (rWidth_ev _ u0 u1) ?_)))
    rw [fitsN]
    by_cases c : rd l (i : Int) < 2 ^ w
    · rw [if_pos c]
      exact Evn.neg (by rw [bl_iff _ w (by omega) u0 u1]; simpa using c) (ih (i + 1) (by omega))
    · rw [if_neg c]
      exact Evn.pos ((bl_iff _ w (by omega) u0 u1).2 c) (Evn.pure _)
theorem rfits_ev (l : List Int) (hu : Us l) (s : Nat) (hs : s < 16) (hl : l.length < 140737488355328) : Evn (fun k => casketref06_fits.f k l (s : Int)) (fitsB l s) := by
  obtain ⟨f1, f2, f3, f4⟩ := room_facts s hs
  unfold casketref06_fits.f fitsB
  refine Evn.bindc (rRoom_f s hs) ?_
  by_cases c : l.length < nn s
  · rw [if_pos c]
    exact Evn.pos (by show ((nn s : Nat) : Int) > _; omega) (Evn.pure _)
  · rw [if_neg c]
    refine Evn.neg (by show ¬ ((nn s : Nat) : Int) > _; omega) ?_
    exact rfits_loop l hu (nn s) (ww s) (by omega) (by omega) hl (nn s) 0 (by omega)
/-! one word -/
theorem pack_step2 (a x : Int) (s i w : Nat) (hs : s < 16) (ha0 : 0 ≤ a) (ha : a < 2 ^ (i * w)) (hx0 : 0 ≤ x) (hx : x < 2 ^ w) (hw : (i + 1) * w ≤ 60) :
    Go.bits .or .u64 ((s : Int) * 1152921504606846976 + a * 2 ^ (60 - i * w)) (shl .u64 x ((60 - (i + 1) * w : Nat) : Int)) = (s : Int) * 1152921504606846976 + (a * 2 ^ w + x) * 2 ^ (60 - (i + 1) * w) ∧ 0 ≤ a * 2 ^ w + x ∧ a * 2 ^ w + x < 2 ^ ((i + 1) * w) := by
  obtain ⟨e, he⟩ : ∃ e, e = 60 - (i + 1) * w := ⟨_, rfl⟩
  have hiw : (i + 1) * w = i * w + w := by rw [Nat.add_mul, Nat.one_mul]
  have h1 : 60 - i * w = w + e := by omega
  have hp : (0 : Int) < 2 ^ w := Int.pow_pos (by decide)
  have hq : (0 : Int) < 2 ^ e := Int.pow_pos (by decide)
  have hr : (0 : Int) < 2 ^ (i * w) := Int.pow_pos (by decide)
  have b1 : (a + 1) * 2 ^ w ≤ 2 ^ (i * w) * 2 ^ w := Int.mul_le_mul_of_nonneg_right (by omega) (by omega)
  rw [Int.add_mul, Int.one_mul, ← Int.pow_add, ← hiw] at b1
  have h0 : 0 ≤ a * 2 ^ w := Int.mul_nonneg ha0 (by omega)
  have b2 : (a * 2 ^ w + x + 1) * 2 ^ e ≤ 2 ^ ((i + 1) * w) * 2 ^ e := Int.mul_le_mul_of_nonneg_right (by omega) (by omega)
  rw [Int.add_mul, Int.one_mul, ← Int.pow_add, show (i + 1) * w + e = 60 by omega, show (2 : Int) ^ 60 = 1152921504606846976 by decide, Int.add_mul] at b2
  have h2 : 0 ≤ x * 2 ^ e := Int.mul_nonneg hx0 (by omega)
  have h3 : 0 ≤ a * 2 ^ w * 2 ^ e := Int.mul_nonneg h0 (by omega)
  have e1 : shl .u64 x ((e : Nat) : Int) = x * 2 ^ e := k_shl x _ e rfl (by omega) h2 (by omega)
  have hxe : x * 2 ^ e < 2 ^ (w + e) := by
    rw [Int.pow_add]
    exact Int.mul_lt_mul_of_pos_right hx hq
  rw [← he, e1, h1, Int.pow_add, ← Int.mul_assoc]
  refine ⟨?_, by omega, by omega⟩
  have hm : ((s : Int) * 1152921504606846976 + a * 2 ^ w * 2 ^ e) % 2 ^ (w + e) = 0 := by
    have hd : ((2 : Int) ^ (w + e)) ∣ 1152921504606846976 := by
      rw [show (1152921504606846976 : Int) = 2 ^ (w + e) * 2 ^ (i * w) by rw [← Int.pow_add, show w + e + i * w = 60 by omega]; decide]
      exact Int.dvd_mul_right _ _
    have hd2 : ((2 : Int) ^ (w + e)) ∣ a * 2 ^ w * 2 ^ e := by
      rw [Int.mul_assoc, ← Int.pow_add]
      exact Int.dvd_mul_left _ _
    exact Int.emod_eq_zero_of_dvd (Int.dvd_add (Int.dvd_trans hd (Int.dvd_mul_left _ _)) hd2)
  rw [k64_or_add' (w + e) (x * 2 ^ e) _ h2 hxe (by omega) hm (by omega) (by omega), Int.add_mul]
  omega
theorem sEncN_step (d : Nat) (l : List Int) (h : 0 < l.length) : sEncN (d + 1) l = fixB 8 (packB l (findS 15 0 l)) ++ sEncN d (l.drop (nn (findS 15 0 l))) := by
  rw [sEncN, if_neg]
  rintro rfl
  simp at h
theorem rEnc_l3 (l : List Int) (hu : Us l) (s : Nat) (hs : s < 16) (hf : fitsB l s = true) (out r : List Int) (ho : out.length + 8 < 140737488355328) (h : Evn (fun k => casketref06_Encode.l1 k (l.drop (nn s)) (out ++ fixB 8 (packB l s))) (r, 0)) (d : Nat) :
    ∀ (i : Nat) (a : Int), i + d = nn s → 0 ≤ a → a < 2 ^ (i * ww s) → packN l (ww s) d i a = packN l (ww s) (nn s) 0 0 → Evn (fun k => casketref06_Encode.l3 k l out (nn s : Int) (ww s : Int) ((s : Int) * 1152921504606846976 + a * 2 ^ (60 - i * ww s)) (i : Int)) (r, 0) := by
  obtain ⟨f1, f2, f3, f4⟩ := room_facts s hs
  obtain ⟨g1, g2⟩ := fitsB_facts hf
  induction d with
  | zero =>
    intro i a hi ha0 ha hp
    have e : (s : Int) * 1152921504606846976 + a * 2 ^ (60 - i * ww s) = packB l s := by
      unfold packB
      rw [← hp, packN, show i = nn s by omega]
    refine Evn.round ?_
    simp only [casketref06_Encode.l3]
    refine Evn.neg (by omega) ?_
    rw [e]
    refine Evn.bind (rFix_ev (packB l s) 8 (by omega)) (Evn.pos (by rw [fixB_length]; omega) (Evn.pos (by omega) (Evn.pos (by omega) ?_)))
    rw [Int.toNat_natCast]
    exact h
  | succ d ih =>
    intro i a hi ha0 ha hp
    have hiw : (i + 1) * ww s ≤ 60 := Nat.le_trans (Nat.mul_le_mul_right _ (by omega)) f4
    obtain ⟨u0, u1⟩ := us_rd hu i (by omega)
    obtain ⟨q1, q2, q3⟩ := pack_step2 a (rd l (i : Int)) s i (ww s) hs ha0 ha u0 (g2 i (by omega)) hiw
    have h2 := ih (i + 1) _ (by omega) q2 q3 (by rw [← hp, packN])
    refine Evn.round ?_
    simp only [casketref06_Encode.l3, wrap_n i (show i < 140737488355328 by omega), wf_b i (ww s) hiw, wf_d _ hiw]
    refine Evn.pos (by omega) (Evn.pos (by omega) (Evn.pos (by omega) (Evn.pos (by omega) ?_)))
    rw [q1]
    exact h2
theorem rEnc_l2 (l : List Int) (hu : Us l) (h0 : 0 < l.length) (h60 : ∀ x ∈ l, x < 2 ^ 60) (hl : l.length < 140737488355328) (out r : List Int) (ho : out.length + 8 < 140737488355328) (h : Evn (fun k => casketref06_Encode.l1 k (l.drop (nn (findS 15 0 l))) (out ++ fixB 8 (packB l (findS 15 0 l)))) (r, 0)) (d : Nat) :
    ∀ s, s + d = 15 → findS d s l = findS 15 0 l → Evn (fun k => casketref06_Encode.l2 k l out (s : Int)) (r, 0) := by
  have key : ∀ s, s ≤ 15 → fitsB l s = true → findS 15 0 l = s → Evn (fun k => casketref06_Encode.l2 k l out (s : Int)) (r, 0) := by
    intro s hs hf e
    rw [e] at h
    refine Evn.round ?_
    simp only [casketref06_Encode.l2]
    refine Evn.bind (rfits_ev l hu s (by omega) hl) ?_
    rw [hf]
    refine Evn.pos rfl (Evn.bindc (rRoom_f s (by omega)) ?_)
    have e1 : IntKind.u64.wrap (IntKind.u64.wrap (s : Int) * 1152921504606846976) = (s : Int) * 1152921504606846976 + 0 * 2 ^ (60 - 0 * ww s) := by
      rw [k64_id (s : Int) (by omega) (by omega), k64_id _ (by omega) (by omega)]
      omega
    rw [e1]
    exact rEnc_l3 l hu s (by omega) hf out r ho h (nn s) 0 0 (by omega) (by omega) (by simp) rfl
  induction d with
  | zero =>
    intro s hs e
    obtain rfl : s = 15 := by omega
    exact key 15 (by omega) (fits15 l h0 h60) e.symm
  | succ d ih =>
    intro s hs e
    by_cases hf : fitsB l s = true
    · rw [findS, if_pos hf] at e
      exact key s (by omega) hf e.symm
    · have hff : fitsB l s = false := by
        cases hb : fitsB l s
        · rfl
        · exact absurd hb hf
      rw [findS, if_neg hf] at e
      have h2 := ih (s + 1) (by omega) e
      refine Evn.round ?_
      simp only [casketref06_Encode.l2, wrap_n s (by omega)]
      refine Evn.bind (rfits_ev l hu s (by omega) hl) ?_
      rw [hff]
      exact Evn.neg (by decide) h2
theorem rEnc_l1 (d : Nat) : ∀ (l out : List Int), Us l → (∀ x ∈ l, x < 2 ^ 60) → l.length ≤ d → out.length + 8 * d < 140737488355328 → d ≤ 65536 → Evn (fun k => casketref06_Encode.l1 k l out) (out ++ sEncN d l, 0) := by
  induction d with
  | zero =>
    intro l out _ _ hl _ _
    refine Evn.round ?_
    simp only [casketref06_Encode.l1]
    refine Evn.neg (by omega) ?_
    rw [sEncN, List.append_nil]
    exact Evn.pure _
  | succ d ih =>
    intro l out hu h60 hl ho hd
    rcases Nat.eq_zero_or_pos l.length with h0 | h0
    · have e : l = [] := List.eq_nil_of_length_eq_zero h0
      refine Evn.round ?_
      simp only [casketref06_Encode.l1]
      refine Evn.neg (by omega) ?_
      rw [sEncN, if_pos e, List.append_nil]
      exact Evn.pure _
    · refine Evn.round ?_
      simp only [casketref06_Encode.l1]
      refine Evn.pos (by omega) ?_
      obtain ⟨q1, q2, q3⟩ := findS_fits l h0 h60 15 0 rfl
      obtain ⟨f1, f2, f3, f4⟩ := room_facts (findS 15 0 l) (by omega)
      have h2 := ih (l.drop (nn (findS 15 0 l))) (out ++ fixB 8 (packB l (findS 15 0 l))) (fun x hx => hu x (List.mem_of_mem_drop hx)) (fun x hx => h60 x (List.mem_of_mem_drop hx)) (by rw [List.length_drop]; omega) (by rw [List.length_append, fixB_length]; omega) (by omega)
      rw [sEncN_step d l h0, ← List.append_assoc]
      exact rEnc_l2 l hu h0 h60 (by omega) out _ (by omega) h2 15 0 rfl rfl
theorem rEnc_l0 (l : List Int) (hu : Us l) (hl : l.length ≤ 65536) (d : Nat) : ∀ i, i + d = l.length → small60 d i l = small60 l.length 0 l → Evn (fun k => casketref06_Encode.l0 k l (i : Int)) (if small60 l.length 0 l = true then (sEncN l.length l, 0) else ([], 1)) := by
  induction d with
  | zero =>
    intro i hi e
    rw [← e, small60, if_pos rfl]
    have h60 : ∀ x ∈ l, x < 2 ^ 60 := by
      intro x hx
      obtain ⟨j, hj, rfl⟩ := List.getElem_of_mem hx
      have := small60_rd l l.length 0 (by rw [← e, small60]) j (by omega) (by omega)
      rwa [rd_nat, List.getD_eq_getElem?_getD, List.getElem?_eq_getElem hj, Option.getD_some] at this
    refine Evn.round ?_
    simp only [casketref06_Encode.l0]
    refine Evn.neg (by omega) ?_
    have := rEnc_l1 l.length l [] hu h60 (Nat.le_refl _) (by simp; omega) hl
    rwa [List.nil_append] at this
  | succ d ih =>
    intro i hi e
    obtain ⟨u0, u1⟩ := us_rd hu i (by omega)
    have e1 := wrap_n i (by omega)
    refine Evn.round ?_
    simp only [casketref06_Encode.l0, e1]
    clear e1
    refine Evn.pos (by omega) (Evn.pos (by omega) (Evn.bind (rWidth_ev _ u0 u1) ?_))
    rw [small60] at e
    have hb := bl_iff (rd l (i : Int)) 60 (by omega) u0 u1
    by_cases c : rd l (i : Int) < 2 ^ 60
    · rw [if_pos c] at e
      refine Evn.neg (fun h => hb.1 h c) (ih (i + 1) (by omega) e)
    · rw [if_neg c] at e
      rw [← e, if_neg (by decide)]
      exact Evn.pos (hb.2 c) (Evn.pure _)
theorem rEnc_ev (l : List Int) (hu : Us l) : Evn (fun k => casketref06_Encode.f k l) (sEnc l) := by
  unfold casketref06_Encode.f sEnc
  by_cases c : 65536 < l.length
  · rw [if_pos c]
    exact Evn.pos (by omega) (Evn.pure _)
  · rw [if_neg c]
    exact Evn.neg (by omega) (rEnc_l0 l hu (by omega) l.length 0 (by omega) rfl)
theorem Enc_f (l : List Int) (hu : Us l) (hl : l.length < 140737488355328) : simple_Encode.f l = some (sEnc l) := by
  unfold simple_Encode.f
  rw [if_pos ⟨fun x hx => ⟨(hu x hx).1, by have := (hu x hx).2; omega⟩, hl⟩]
end Go.Proofs.Ytfcllbkjhiendaa.Sim
