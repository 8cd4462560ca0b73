/- What simple.Encode writes is read back, as plain lists: whole, cut off, with a word more. -/
import Derived.Test.YtfcllbkjhiendaaSimL
import Derived.Test.YtfcllbkjhiendaaSimM
namespace Go.Proofs.Ytfcllbkjhiendaa.Sim
open Go.RowKit Go.Proofs.Ytfcllbkjhiendaa.P Go.Proofs.Ytfcllbkjhiendaa.Kit Go.Proofs.Ytfcllbkjhiendaa.Var Go.Proofs.YtfcllbkjhiendaaW.PrintWords Go.Proofs.YtfcllbkjhiendaaW.PrintLast Go.Proofs.YtfcllbkjhiendaaW.PrintMore
set_option linter.unusedVariables false
set_option linter.unusedSimpArgs false

theorem be_fixB (v : Int) (n : Nat) : ∀ a : Int, be (fixB n v) a = a * 256 ^ n + v % 256 ^ n := by
  induction n with
  | zero => intro a; simp [fixB, be]
  | succ n ih =>
    intro a
    rw [fixB]
    show be (fixB n v) (a * 256 + v / 2 ^ (8 * n) % 256) = _
    rw [ih]
    have hp : (0 : Int) < 256 ^ n := Int.pow_pos (by decide)
    have e1 : (2 : Int) ^ (8 * n) = 256 ^ n := by rw [Int.pow_mul]; rfl
    have e2 : v % 256 ^ (n + 1) = v / 256 ^ n % 256 * 256 ^ n + v % 256 ^ n := by
      rw [Int.pow_succ, Int.emod_def v (256 ^ n * 256), Int.emod_def (v / 256 ^ n) 256, Int.emod_def v (256 ^ n), ← Int.ediv_ediv_of_nonneg (by omega), Int.sub_mul, show 256 ^ n * 256 * (v / 256 ^ n / 256) = 256 * (v / 256 ^ n / 256) * 256 ^ n by ac_rfl, Int.mul_comm (v / 256 ^ n) (256 ^ n)]
      omega
    rw [e1, e2, Int.add_mul, Int.pow_succ, Int.mul_assoc, Int.mul_comm 256 (256 ^ n)]
    omega
/-- The first i numbers in w bits each. -/
def pref (l : List Int) (w : Nat) : Nat → Int
  | 0 => 0
  | i + 1 => pref l w i * 2 ^ w + rd l (i : Int)
theorem packN_pref (l : List Int) (w : Nat) (d : Nat) : ∀ i, packN l w d i (pref l w i) = pref l w (i + d) := by
  induction d with
  | zero => intro i; rfl
  | succ d ih =>
    intro i
    rw [packN]
    have := ih (i + 1)
    rw [show i + (d + 1) = i + 1 + d by omega]
    exact this
theorem p2pos (n : Nat) : (0 : Int) < 2 ^ n := Int.pow_pos (by decide)
theorem pref_bd {l : List Int} {w n : Nat} (hx : ∀ i, i < n → 0 ≤ rd l (i : Int) ∧ rd l (i : Int) < 2 ^ w) : ∀ i, i ≤ n → 0 ≤ pref l w i ∧ pref l w i < 2 ^ (i * w)
  | 0, _ => by simp [pref]
  | i + 1, hi => by
    obtain ⟨h0, h1⟩ := pref_bd hx i (by omega)
    obtain ⟨x0, x1⟩ := hx i (by omega)
    rw [pref, Nat.add_mul, Nat.one_mul, Int.pow_add]
    have hp := p2pos w
    have h2 : (pref l w i + 1) * 2 ^ w ≤ 2 ^ (i * w) * 2 ^ w := Int.mul_le_mul_of_nonneg_right (by omega) (by omega)
    have h3 : 0 ≤ pref l w i * 2 ^ w := Int.mul_nonneg h0 (by omega)
    rw [Int.add_mul, Int.one_mul] at h2
    omega
theorem pref_split {l : List Int} {w n : Nat} (hx : ∀ i, i < n → 0 ≤ rd l (i : Int) ∧ rd l (i : Int) < 2 ^ w) (i : Nat) (d : Nat) : i + d ≤ n → ∃ r, pref l w (i + d) = pref l w i * 2 ^ (d * w) + r ∧ 0 ≤ r ∧ r < 2 ^ (d * w) := by
  induction d with
  | zero => intro _; exact ⟨0, by simp, by simp⟩
  | succ d ih =>
    intro hd
    obtain ⟨r, e, r0, r1⟩ := ih (by omega)
    obtain ⟨x0, x1⟩ := hx (i + d) (by omega)
    have hp := p2pos w
    have h2 : (r + 1) * 2 ^ w ≤ 2 ^ (d * w) * 2 ^ w := Int.mul_le_mul_of_nonneg_right (by omega) (by omega)
    have h3 : 0 ≤ r * 2 ^ w := Int.mul_nonneg r0 (by omega)
    rw [Int.add_mul, Int.one_mul] at h2
    refine ⟨r * 2 ^ w + rd l ((i + d : Nat) : Int), ?_, by omega, ?_⟩
    · rw [show i + (d + 1) = (i + d) + 1 by omega, pref, e, Int.add_mul, Int.mul_assoc, Nat.add_mul, Nat.one_mul, Int.pow_add, Int.add_assoc]
    · rw [Nat.add_mul, Nat.one_mul, Int.pow_add]
      omega
theorem pref_at {l : List Int} {w n : Nat} (hx : ∀ i, i < n → 0 ≤ rd l (i : Int) ∧ rd l (i : Int) < 2 ^ w) (i : Nat) (hi : i < n) : pref l w n / 2 ^ ((n - (i + 1)) * w) % 2 ^ w = rd l (i : Int) := by
  obtain ⟨r, e, r0, r1⟩ := pref_split hx (i + 1) (n - (i + 1)) (by omega)
  rw [show i + 1 + (n - (i + 1)) = n by omega] at e
  obtain ⟨x0, x1⟩ := hx i hi
  have hp := p2pos ((n - (i + 1)) * w)
  rw [e, Int.add_comm, Int.add_mul_ediv_right _ _ (Int.ne_of_gt hp), Int.ediv_eq_zero_of_lt r0 r1, Int.zero_add, pref, Int.add_comm, Int.add_mul_emod_self_right, Int.emod_eq_of_lt x0 x1]
theorem fitsN_at {l : List Int} {w : Nat} (d : Nat) : ∀ i, fitsN l w d i = true → ∀ j, i ≤ j → j < i + d → rd l (j : Int) < 2 ^ w := by
  induction d with
  | zero => intro i _ j h1 h2; omega
  | succ d ih =>
    intro i h j h1 h2
    rw [fitsN] at h
    split at h
    · next hx =>
      by_cases e : j = i
      · rw [e]
        exact hx
      · exact ih (i + 1) h j (by omega) (by omega)
    · cases h
theorem pack_word {l : List Int} (hu : Us l) {s : Nat} (hs : s < 16) (hf : fitsB l s = true) : 0 ≤ packB l s ∧ packB l s < 18446744073709551616 ∧ packB l s / 1152921504606846976 = (s : Int) ∧ ∀ i, i < nn s → packB l s / 2 ^ (60 - (i + 1) * ww s) % 2 ^ ww s = rd l (i : Int) := by
  obtain ⟨f1, f2, f3, f4⟩ := room_facts s hs
  have hlen : nn s ≤ l.length := by
    unfold fitsB at hf
    split at hf
    · cases hf
    · omega
  have hfn : fitsN l (ww s) (nn s) 0 = true := by
    unfold fitsB at hf
    split at hf
    · cases hf
    · exact hf
  have hx : ∀ i, i < nn s → 0 ≤ rd l (i : Int) ∧ rd l (i : Int) < 2 ^ ww s := fun i hi => ⟨(us_rd hu i (by omega)).1, fitsN_at (nn s) 0 hfn i (by omega) (by omega)⟩
  have hP : packN l (ww s) (nn s) 0 0 = pref l (ww s) (nn s) := by
    have := packN_pref l (ww s) (nn s) 0
    rwa [Nat.zero_add] at this
  obtain ⟨b0, b1⟩ := pref_bd hx (nn s) (Nat.le_refl _)
  have hp := p2pos (60 - nn s * ww s)
  have h60 : (2 : Int) ^ (nn s * ww s) * 2 ^ (60 - nn s * ww s) = 1152921504606846976 := by
    rw [← Int.pow_add, show nn s * ww s + (60 - nn s * ww s) = 60 by omega]
    decide
  have q0 : 0 ≤ pref l (ww s) (nn s) * 2 ^ (60 - nn s * ww s) := Int.mul_nonneg b0 (by omega)
  have q1 : pref l (ww s) (nn s) * 2 ^ (60 - nn s * ww s) < 1152921504606846976 := by
    rw [← h60]
    exact Int.mul_lt_mul_of_pos_right b1 hp
  have e : packB l s = (s : Int) * 1152921504606846976 + pref l (ww s) (nn s) * 2 ^ (60 - nn s * ww s) := by rw [packB, hP]
  refine ⟨by omega, by omega, by omega, fun i hi => ?_⟩
  have hiw : (i + 1) * ww s ≤ nn s * ww s := Nat.mul_le_mul_right _ (by omega)
  have hi1 : (i + 1) * ww s = i * ww s + ww s := by rw [Nat.add_mul, Nat.one_mul]
  have hsub : (nn s - (i + 1)) * ww s = nn s * ww s - (i + 1) * ww s := Nat.sub_mul _ _ _
  rw [word_bits _ _ _ (by omega), show packB l s % 1152921504606846976 = pref l (ww s) (nn s) * 2 ^ (60 - nn s * ww s) by omega]
  rw [show 60 - (i + 1) * ww s = (60 - nn s * ww s) + (nn s - (i + 1)) * ww s by omega, Int.pow_add, ← Int.ediv_ediv_of_nonneg (by omega), Int.mul_ediv_cancel _ (Int.ne_of_gt hp)]
  exact pref_at hx i hi
theorem unN_take {l : List Int} {v : Int} {w n : Nat} (hn : n ≤ l.length) (h : ∀ i, i < n → v / 2 ^ (60 - (i + 1) * w) % 2 ^ w = rd l (i : Int)) (d : Nat) : ∀ i, i + d = n → unN v w d i = (l.drop i).take d := by
  induction d with
  | zero => intro i _; simp [unN]
  | succ d ih =>
    intro i hi
    have hlt : i < l.length := by omega
    rw [unN, h i (by omega), ih (i + 1) (by omega), List.drop_eq_getElem_cons hlt, List.take_succ_cons, rd_nat, List.getD_eq_getElem?_getD, List.getElem?_eq_getElem hlt, Option.getD_some]
theorem unW_pack {l : List Int} (hu : Us l) {s : Nat} (hs : s < 16) (hf : fitsB l s = true) : unW (packB l s) = l.take (nn s) := by
  obtain ⟨h0, h1, h2, h3⟩ := pack_word hu hs hf
  have hlen : nn s ≤ l.length := by
    unfold fitsB at hf
    split at hf
    · cases hf
    · omega
  unfold unW
  rw [h2, Int.toNat_natCast]
  exact unN_take hlen h3 (nn s) 0 (by omega)
theorem word_back {l : List Int} (hu : Us l) (h60 : ∀ x ∈ l, x < 2 ^ 60) (h0 : 0 < l.length) (t : List Int) :
    let s := findS 15 0 l
    nn s ≤ l.length ∧ 1 ≤ nn s ∧ unW (be ((fixB 8 (packB l s) ++ t).take 8) 0) = l.take (nn s) ∧ (fixB 8 (packB l s) ++ t).drop 8 = t := by
  intro s
  obtain ⟨q1, q2, q3⟩ := findS_fits l h0 h60 15 0 rfl
  have hs : s < 16 := by show findS 15 0 l < 16; omega
  have hf : fitsB l s = true := q1
  have h8 : (fixB 8 (packB l s)).length = 8 := fixB_length _ 8
  obtain ⟨w0, w1, _, _⟩ := pack_word hu hs hf
  refine ⟨?_, (room_facts s hs).1, ?_, List.drop_left' h8⟩
  · unfold fitsB at hf
    split at hf
    · cases hf
    · omega
  · rw [List.take_left' h8, be_fixB, show (0 : Int) * 256 ^ 8 + packB l s % 256 ^ 8 = packB l s by rw [show (256 : Int) ^ 8 = 18446744073709551616 by decide]; omega]
    exact unW_pack hu hs hf
theorem Us.drop {l : List Int} (h : Us l) (n : Nat) : Us (l.drop n) := fun x hx => h x (List.mem_of_mem_drop hx)
theorem dec_words (b0 t : List Int) (n : Nat) (m : Nat) : ∀ (l out : List Int) (d : Nat), Us l → (∀ x ∈ l, x < 2 ^ 60) → l.length ≤ m → l.length ≤ d → out.length + l.length = n → sDecL b0 n d out (sEncN m l ++ t) = fin6 b0 n (out ++ l) t := by
  induction m with
  | zero =>
    intro l out d hu h60 hm hd hn
    obtain rfl : l = [] := List.eq_nil_of_length_eq_zero (by omega)
    rw [sEncN, List.nil_append, List.append_nil]
    cases d with
    | zero => rfl
    | succ d => rw [sDecL, if_neg (by simp at hn; omega)]
  | succ m ih =>
    intro l out d hu h60 hm hd hn
    by_cases h0 : 0 < l.length
    · obtain ⟨w1, w2, w3, w4⟩ := word_back hu h60 h0 (sEncN m (l.drop (nn (findS 15 0 l))) ++ t)
      obtain ⟨d', rfl⟩ : ∃ d', d = d' + 1 := ⟨d - 1, by omega⟩
      have hdl : (l.drop (nn (findS 15 0 l))).length = l.length - nn (findS 15 0 l) := List.length_drop
      have htl : (l.take (nn (findS 15 0 l))).length = nn (findS 15 0 l) := by rw [List.length_take]; omega
      rw [sEncN_step m l h0, List.append_assoc, sDecL, if_pos (by omega), if_neg (by rw [List.length_append, fixB_length]; omega), w3, w4, ih _ _ _ (hu.drop _) (fun x hx => h60 x (List.mem_of_mem_drop hx)) (by omega) (by omega) (by rw [List.length_append]; omega), List.append_assoc, List.take_append_drop]
    · obtain rfl : l = [] := List.eq_nil_of_length_eq_zero (by omega)
      rw [show sEncN (m + 1) [] = [] from by simp [sEncN], List.nil_append, List.append_nil]
      cases d with
      | zero => rfl
      | succ d => rw [sDecL, if_neg (by simp at hn; omega)]
theorem dec_short (b0 : List Int) (n : Nat) (m : Nat) : ∀ (l out : List Int) (d k : Nat), Us l → (∀ x ∈ l, x < 2 ^ 60) → l.length ≤ m → l.length ≤ d → out.length + l.length = n → k < (sEncN m l).length → (sDecL b0 n d out ((sEncN m l).take k)).2 = 2 := by
  induction m with
  | zero =>
    intro l out d k hu h60 hm hd hn hk
    simp [sEncN] at hk
  | succ m ih =>
    intro l out d k hu h60 hm hd hn hk
    by_cases h0 : 0 < l.length
    · obtain ⟨d', rfl⟩ : ∃ d', d = d' + 1 := ⟨d - 1, by omega⟩
      have h8 : (fixB 8 (packB l (findS 15 0 l))).length = 8 := fixB_length _ 8
      rw [sEncN_step m l h0] at hk ⊢
      rw [List.length_append, h8] at hk
      rw [sDecL, if_pos (by omega)]
      by_cases c : k < 8
      · rw [if_pos (by rw [List.length_take]; omega)]
      · obtain ⟨j, rfl⟩ : ∃ j, k = (fixB 8 (packB l (findS 15 0 l))).length + j := ⟨k - 8, by omega⟩
        obtain ⟨w1, w2, w3, w4⟩ := word_back hu h60 h0 ((sEncN m (l.drop (nn (findS 15 0 l)))).take j)
        have hdl : (l.drop (nn (findS 15 0 l))).length = l.length - nn (findS 15 0 l) := List.length_drop
        have htl : (l.take (nn (findS 15 0 l))).length = nn (findS 15 0 l) := by rw [List.length_take]; omega
        rw [List.take_length_add_append, if_neg (by rw [List.length_append, h8]; omega), w3, w4]
        exact ih _ _ _ j (hu.drop _) (fun x hx => h60 x (List.mem_of_mem_drop hx)) (by omega) (by omega) (by rw [List.length_append]; omega) (by omega)
    · obtain rfl : l = [] := List.eq_nil_of_length_eq_zero (by omega)
      rw [show sEncN (m + 1) [] = [] from by simp [sEncN]] at hk
      cases hk
theorem s_back {l : List Int} (hu : Us l) (h60 : ∀ x ∈ l, x < 2 ^ 60) (hl : l.length ≤ 65536) : sDec (sEncN l.length l) (l.length : Int) = (l, 0) := by
  unfold sDec
  rw [if_neg (by omega), Int.toNat_natCast]
  have h := dec_words (sEncN l.length l) [] l.length l.length l [] l.length hu h60 (Nat.le_refl _) (Nat.le_refl _) (by simp)
  rw [List.append_nil, List.nil_append] at h
  rw [h]
  unfold fin6
  rw [if_neg (by omega), if_neg (by simp), if_pos (sEnc_ok l hl h60)]
theorem s_more {l : List Int} (hu : Us l) (h60 : ∀ x ∈ l, x < 2 ^ 60) (hl : l.length ≤ 65536) (t : List Int) (ht : 0 < t.length) : (sDec (sEncN l.length l ++ t) (l.length : Int)).2 = 3 := by
  unfold sDec
  rw [if_neg (by omega), Int.toNat_natCast, dec_words _ t l.length l.length l [] l.length hu h60 (Nat.le_refl _) (Nat.le_refl _) (by simp)]
  unfold fin6
  rw [if_neg (by simp), if_pos ht]
theorem s_cut {l : List Int} (hu : Us l) (h60 : ∀ x ∈ l, x < 2 ^ 60) (hl : l.length ≤ 65536) (k : Nat) (hk : k < (sEncN l.length l).length) : (sDec ((sEncN l.length l).take k) (l.length : Int)).2 = 2 := by
  unfold sDec
  rw [if_neg (by omega), Int.toNat_natCast]
  exact dec_short _ l.length l.length l [] l.length k hu h60 (Nat.le_refl _) (Nat.le_refl _) (by simp) hk
end Go.Proofs.Ytfcllbkjhiendaa.Sim
