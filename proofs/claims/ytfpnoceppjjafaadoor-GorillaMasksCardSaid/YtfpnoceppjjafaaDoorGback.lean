/- What is encoded is decoded to the same; cut off it is too short; with a byte more it is refused: in plain lists. -/
import Derived.Test.YtfpnoceppjjafaaDoorGl
namespace Go.Proofs.YtfpnoceppjjafaaDoor.P
open Go.RowKit Go.Proofs.YtfpnoceppjjafaaDoor.Kit Go.Proofs.YtfpnoceppjjafaaDoorW.PrintWords Go.Proofs.YtfpnoceppjjafaaDoorW.PrintLast Go.Proofs.YtfpnoceppjjafaaDoorW.PrintMore
set_option linter.unusedVariables false
set_option linter.unusedSimpArgs false
theorem rget_bits (w : Nat) (hw : w ≤ 64) {v : Int} (h0 : 0 ≤ v) (h1 : v < 2 ^ w) (T : List Int) : rGet (bitsOf w v ++ T) (w : Int) = (v, 0, T) := by
  unfold rGet
  rw [if_neg (by omega), Int.toNat_natCast, if_neg (by rw [List.length_append, bitsOf_length]; omega), List.take_left' (bitsOf_length w v), List.drop_left' (bitsOf_length w v), valL_of_bits h0 h1]
theorem rget_short (w : Nat) (hw : w ≤ 64) (s : List Int) (h : s.length < w) : rGet s (w : Int) = (0, 2, s) := by
  unfold rGet
  rw [if_neg (by omega), Int.toNat_natCast, if_pos h]
theorem bl_bound {v : Int} {w : Nat} (hv : U v) (h : (Lib.bitLen v.toNat : Int) ≤ (w : Int)) : v < 2 ^ w := by
  have := bl_lt v.toNat w (by unfold U at hv; omega) (by omega)
  obtain ⟨n, rfl⟩ := Int.eq_ofNat_of_zero_le hv.1
  rw [Int.toNat_natCast] at this
  exact_mod_cast this
theorem back_x {x : Int} (hx : U x) {z : Nat} (hz : (z : Int) ≤ tz x) : x / 2 ^ z * 2 ^ z = x := by
  have h := tz_dvd hx hz
  have := Int.mul_ediv_add_emod x (2 ^ z)
  rw [Int.mul_comm]
  omega
theorem two1 : bitsOf 2 2 = bitsOf 1 1 ++ bitsOf 1 0 := by decide
theorem two2 : bitsOf 2 3 = bitsOf 1 1 ++ bitsOf 1 1 := by decide
/-- What the rest of an item reads as. -/
theorem read_rest {x a z : Int} (hx : U x) (ha : 0 ≤ a) (hz : 0 ≤ z) (hs : a + z ≤ 63) (hl : a ≤ lz x) (ht : z ≤ tz x) (T : List Int) : gNr (a, z) (bitsOf (64 - a - z).toNat (x / 2 ^ z.toNat) ++ T) = (x, 0, T, a, z) := by
  have hf := shr_fit hx ha hz (by omega) hl
  obtain ⟨RW, hRW⟩ : ∃ RW : Nat, 64 - a - z = (RW : Int) := ⟨_, (Int.toNat_of_nonneg (by omega)).symm⟩
  obtain ⟨zn, rfl⟩ := Int.eq_ofNat_of_zero_le hz
  rw [Int.toNat_natCast] at hf ⊢
  rw [hRW] at hf ⊢
  rw [Int.toNat_natCast]
  have hr := rget_bits RW (by omega) hf.1.1 (bl_bound hf.1 (by omega)) T
  unfold gNr
  rw [if_neg, hRW, hr]
  · rw [Int.toNat_natCast]
    show (x / 2 ^ zn * 2 ^ zn, _) = _
    rw [back_x hx ht]
  · rintro (h | h)
    · injection h with h _
      omega
    · exact absurd h (by show ¬ (zn : Int) < 0; omega)
theorem cut_rest {a z : Int} (ha : 0 ≤ a) (hz : 0 ≤ z) (hs : a + z ≤ 63) {s : List Int} (h : s.length < (64 - a - z).toNat) : (gNr (a, z) s).2.1 = 2 := by
  obtain ⟨RW, hRW⟩ : ∃ RW : Nat, 64 - a - z = (RW : Int) := ⟨_, (Int.toNat_of_nonneg (by omega)).symm⟩
  rw [hRW, Int.toNat_natCast] at h
  unfold gNr
  rw [if_neg, hRW, rget_short RW (by omega) s h]
  rintro (h | h)
  · injection h with h _
    omega
  · exact absurd hz (by have : z < 0 := h; omega)
theorem gNx_one {p : Int × Int} (s : List Int) : gNx p (bitsOf 1 1 ++ s) = gNo p s := by
  unfold gNx
  rw [show rGet (bitsOf 1 1 ++ s) 1 = (1, 0, s) from rget_bits 1 (by decide) (by decide) (by decide) s]
  exact if_neg (fun h => h.elim (fun h => h rfl) (fun h => absurd (show (1 : Int) = 0 from h) (by decide)))
theorem gNo_zero {p : Int × Int} (s : List Int) : gNo p (bitsOf 1 0 ++ s) = gNr p s := by
  unfold gNo
  rw [show rGet (bitsOf 1 0 ++ s) 1 = (0, 0, s) from rget_bits 1 (by decide) (by decide) (by decide) s]
  exact (if_neg (fun h => h rfl)).trans (if_neg (show ¬ (0 : Int) = 1 by decide))
theorem gNo_one {p : Int × Int} (s : List Int) : gNo p (bitsOf 1 1 ++ s) = gNw p s := by
  unfold gNo
  rw [show rGet (bitsOf 1 1 ++ s) 1 = (1, 0, s) from rget_bits 1 (by decide) (by decide) (by decide) s]
  exact (if_neg (fun h => h rfl)).trans (if_pos rfl)
theorem gNx_nil {p : Int × Int} : (gNx p []).2.1 = 2 := by
  unfold gNx
  rw [show rGet [] 1 = (0, 2, []) from rget_short 1 (by decide) [] (by decide)]
  rw [if_pos (.inl (show (2 : Int) ≠ 0 by decide))]
theorem gNo_nil {p : Int × Int} : (gNo p []).2.1 = 2 := by
  unfold gNo
  rw [show rGet [] 1 = (0, 2, []) from rget_short 1 (by decide) [] (by decide)]
  rw [if_pos (show (2 : Int) ≠ 0 by decide)]
theorem gNw_read {p : Int × Int} {a r : Int} (ha : 0 ≤ a) (ha2 : a < 32) (hr : 0 ≤ r) (hr2 : r < 64) (s : List Int) : gNw p (bitsOf 5 a ++ (bitsOf 6 r ++ s)) = gNr (a, 63 - a - r) s := by
  unfold gNw
  rw [show rGet (bitsOf 5 a ++ (bitsOf 6 r ++ s)) 5 = (a, 0, bitsOf 6 r ++ s) from rget_bits 5 (by decide) ha (by omega) _]
  rw [if_neg (fun h => h rfl), show rGet (a, (0 : Int), bitsOf 6 r ++ s).2.2 6 = (r, 0, s) from rget_bits 6 (by decide) hr (by omega) _]
  exact if_neg (fun h => h rfl)
theorem gNw_cut5 {p : Int × Int} {s : List Int} (h : s.length < 5) : (gNw p s).2.1 = 2 := by
  unfold gNw
  rw [show rGet s 5 = (0, 2, s) from rget_short 5 (by decide) s h]
  rw [if_pos (show (2 : Int) ≠ 0 by decide)]
theorem gNw_cut6 {p : Int × Int} {a : Int} (ha : 0 ≤ a) (ha2 : a < 32) {s : List Int} (h : s.length < 6) : (gNw p (bitsOf 5 a ++ s)).2.1 = 2 := by
  unfold gNw
  rw [show rGet (bitsOf 5 a ++ s) 5 = (a, 0, s) from rget_bits 5 (by decide) ha (by omega) _]
  rw [if_neg (fun h => h rfl), show rGet (a, (0 : Int), s).2.2 6 = (0, 2, s) from rget_short 6 (by decide) s h]
  rw [if_pos (show (2 : Int) ≠ 0 by decide)]
theorem okW_fits {p : Int × Int} {x : Int} (hp : okW p) (hf : fitsW p.1 p.2 x = true) : 0 ≤ p.1 ∧ 0 ≤ p.2 ∧ p.1 + p.2 ≤ 63 ∧ p.1 ≤ lz x ∧ p.2 ≤ tz x := by
  have h := fitsW_true hf
  rcases hp with e | e
  · exact absurd (by rw [e]; exact ⟨rfl, rfl⟩) h.1
  · exact ⟨e.1, e.2.2.1, e.2.2.2, h.2.1, h.2.2⟩
theorem read_step {p : Int × Int} {x : Int} (hp : okW p) (hx : U x) (T : List Int) : gNx p (stepB p x ++ T) = (x, 0, T, stepW p x) := by
  by_cases h0 : x = 0
  · subst h0
    rw [show stepB p 0 = bitsOf 1 0 from if_pos rfl, show stepW p 0 = p from if_pos rfl]
    unfold gNx
    rw [show rGet (bitsOf 1 0 ++ T) 1 = (0, 0, T) from rget_bits 1 (by decide) (by decide) (by decide) T]
    rw [if_pos (.inr rfl)]
  · by_cases hf : fitsW p.1 p.2 x = true
    · obtain ⟨h1, h2, h3, h4, h5⟩ := okW_fits hp hf
      rw [show stepB p x = bitsOf 2 2 ++ bitsOf (64 - p.1 - p.2).toNat (x / 2 ^ p.2.toNat) from (if_neg h0).trans (if_pos hf), show stepW p x = p from (if_neg h0).trans (if_pos hf), two1, List.append_assoc, List.append_assoc, gNx_one, gNo_zero]
      exact read_rest hx h1 h2 h3 h4 h5 T
    · have h1 := ld_le hx
      have h2 := tz_le hx
      have h3 := lz_tz hx h0
      rw [show stepB p x = bitsOf 2 3 ++ (bitsOf 5 (ld x) ++ (bitsOf 6 (63 - ld x - tz x) ++ bitsOf (64 - ld x - tz x).toNat (x / 2 ^ (tz x).toNat))) from (if_neg h0).trans (if_neg hf), show stepW p x = (ld x, tz x) from (if_neg h0).trans (if_neg hf), two2, List.append_assoc, List.append_assoc, List.append_assoc, List.append_assoc, gNx_one, gNo_one, gNw_read h1.1 (by omega) (by omega) (by omega), show 63 - ld x - (63 - ld x - tz x) = tz x by omega]
      exact read_rest hx h1.1 h2.1 (by omega) h1.2.2 (Int.le_refl _) T
theorem take_app (a b : List Int) (k : Nat) (h : a.length ≤ k) : (a ++ b).take k = a ++ b.take (k - a.length) := by
  rw [List.take_append, List.take_of_length_le h]
theorem take_pre (a b : List Int) (k : Nat) (h : k ≤ a.length) : (a ++ b).take k = a.take k := List.take_append_of_le_length h
theorem one_cut {p : Int × Int} {c s : List Int} {k : Nat} (h : ∀ m, m < s.length → (gNo p (s.take m)).2.1 = 2) (hs : 0 < s.length) (hk : k < (bitsOf 1 1 ++ s).length) : (gNx p ((bitsOf 1 1 ++ s).take k)).2.1 = 2 := by
  rw [List.length_append, bitsOf_length] at hk
  by_cases h0 : k = 0
  · subst h0
    rw [List.take_zero]
    exact gNx_nil
  · rw [take_app _ _ _ (by rw [bitsOf_length]; omega), bitsOf_length, gNx_one]
    exact h (k - 1) (by omega)
theorem cut_step {p : Int × Int} {x : Int} (hp : okW p) (hx : U x) {k : Nat} (hk : k < (stepB p x).length) : (gNx p ((stepB p x).take k)).2.1 = 2 := by
  by_cases h0 : x = 0
  · subst h0
    rw [show stepB p 0 = bitsOf 1 0 from if_pos rfl] at hk ⊢
    rw [bitsOf_length] at hk
    rw [show k = 0 by omega, List.take_zero]
    exact gNx_nil
  · by_cases hf : fitsW p.1 p.2 x = true
    · obtain ⟨h1, h2, h3, h4, h5⟩ := okW_fits hp hf
      rw [show stepB p x = bitsOf 2 2 ++ bitsOf (64 - p.1 - p.2).toNat (x / 2 ^ p.2.toNat) from (if_neg h0).trans (if_pos hf), two1, List.append_assoc] at hk ⊢
      refine one_cut (c := []) (fun m hm => ?_) (by rw [List.length_append, bitsOf_length]; omega) hk
      rw [List.length_append, bitsOf_length, bitsOf_length] at hm
      by_cases hm0 : m = 0
      · subst hm0
        rw [List.take_zero]
        exact gNo_nil
      · rw [take_app _ _ _ (by rw [bitsOf_length]; omega), bitsOf_length, gNo_zero]
        exact cut_rest h1 h2 h3 (by rw [List.length_take, bitsOf_length]; omega)
    · have h1 := ld_le hx
      have h2 := tz_le hx
      have h3 := lz_tz hx h0
      rw [show stepB p x = bitsOf 2 3 ++ (bitsOf 5 (ld x) ++ (bitsOf 6 (63 - ld x - tz x) ++ bitsOf (64 - ld x - tz x).toNat (x / 2 ^ (tz x).toNat))) from (if_neg h0).trans (if_neg hf), two2, List.append_assoc] at hk ⊢
      refine one_cut (c := []) (fun m hm => ?_) (by rw [List.length_append, bitsOf_length]; omega) hk
      simp only [List.length_append, bitsOf_length] at hm
      by_cases hm0 : m = 0
      · subst hm0
        rw [List.take_zero]
        exact gNo_nil
      · rw [take_app _ _ _ (by rw [bitsOf_length]; omega), bitsOf_length, gNo_one]
        by_cases hm5 : m - 1 < 5
        · exact gNw_cut5 (by rw [List.length_take]; omega)
        · rw [take_app _ _ _ (by rw [bitsOf_length]; omega), bitsOf_length]
          by_cases hm6 : m - 1 - 5 < 6
          · exact gNw_cut6 h1.1 (by omega) (by rw [List.length_take]; omega)
          · rw [take_app _ _ _ (by rw [bitsOf_length]; omega), bitsOf_length, gNw_read h1.1 (by omega) (by omega) (by omega), show 63 - ld x - (63 - ld x - tz x) = tz x by omega]
            exact cut_rest h1.1 h2.1 (by omega) (by rw [List.length_take, bitsOf_length]; omega)
theorem gW_succ (l : List Int) {i : Nat} (h : i ≠ 0) : gW l (i + 1) = stepW (gW l i) (dx l i) := if_neg h
theorem take_ne {l : List Int} {i : Nat} (h : i ≠ 0) (hi : i < l.length) : l.take i ≠ [] := fun e => by
  have := congrArg List.length e
  rw [List.length_take, List.length_nil] at this
  omega
theorem read_one {l : List Int} (hu : ∀ x ∈ l, U x) {i : Nat} (hi : i < l.length) (T : List Int) : gOne (l.take i) (gW l i) (gItem l i ++ T) = (rd l (i : Int), 0, T, gW l (i + 1)) := by
  by_cases h0 : i = 0
  · subst h0
    have hv := hu _ (rd_mem l ((0 : Nat) : Int) (by omega) (by omega))
    unfold gOne
    rw [if_pos (List.take_zero), show gItem l 0 ++ T = bitsOf 64 (rd l ((0 : Nat) : Int)) ++ T from rfl, show rGet (bitsOf 64 (rd l ((0 : Nat) : Int)) ++ T) 64 = (rd l ((0 : Nat) : Int), 0, T) from rget_bits 64 (by decide) hv.1 (by have := hv.2; omega) T]
    rfl
  · unfold gOne
    rw [if_neg (take_ne h0 hi), show gItem l i = stepB (gW l i) (dx l i) from if_neg h0, read_step (gW_ok hu i (by omega)) (dx_U hu (by omega) hi) T, gW_succ l h0]
    have hl : ((l.take i).length : Int) - 1 = (i : Int) - 1 := by rw [List.length_take]; omega
    rw [hl, rd_take l i ((i : Int) - 1) (by omega) (by omega)]
    show (xw (dx l i) (rd l ((i : Int) - 1)), _) = _
    unfold dx
    rw [xw_back (hu _ (rd_mem l (i : Int) (by omega) (by omega))) (hu _ (rd_mem l ((i : Int) - 1) (by omega) (by omega)))]
theorem cut_one {l : List Int} (hu : ∀ x ∈ l, U x) {i : Nat} (hi : i < l.length) {k : Nat} (hk : k < (gItem l i).length) : (gOne (l.take i) (gW l i) ((gItem l i).take k)).2.1 = 2 := by
  by_cases h0 : i = 0
  · subst h0
    unfold gOne
    rw [if_pos (List.take_zero)]
    rw [show (gItem l 0).length = 64 from bitsOf_length 64 _] at hk
    rw [show rGet ((gItem l 0).take k) 64 = (0, 2, (gItem l 0).take k) from rget_short 64 (by decide) _ (by rw [List.length_take]; omega)]
  · unfold gOne
    rw [if_neg (take_ne h0 hi)]
    rw [show gItem l i = stepB (gW l i) (dx l i) from if_neg h0] at hk ⊢
    exact cut_step (gW_ok hu i (by omega)) (dx_U hu (by omega) hi) hk
/-- The items from a place on. -/
def gT (l : List Int) : Nat → Nat → List Int
  | _, 0 => []
  | i, m + 1 => gItem l i ++ gT l (i + 1) m
theorem gB_gT (l : List Int) : ∀ m i, gB l (i + m) = gB l i ++ gT l i m
  | 0, i => by rw [gT, List.append_nil]; rfl
  | m + 1, i => by rw [show i + (m + 1) = (i + 1) + m by omega, gB_gT l m (i + 1), gB_succ, gT, List.append_assoc]
theorem gB_all (l : List Int) (n : Nat) : gB l n = gT l 0 n := by
  have := gB_gT l n 0
  rw [Nat.zero_add] at this
  exact this
theorem take_rd {l : List Int} {i : Nat} (hi : i < l.length) : l.take i ++ [rd l (i : Int)] = l.take (i + 1) := by
  rw [List.take_add_one, List.getElem?_eq_getElem hi]
  congr 1
  rw [rd_nat, List.getD, List.getElem?_eq_getElem hi]
  rfl
theorem loop_read {l : List Int} (hu : ∀ x ∈ l, U x) (T : List Int) : ∀ m i, i + m = l.length → gLoop m (l.take i) (gW l i) (gT l i m ++ T) = (l, 0)
  | 0, i, h => by rw [gLoop, show i = l.length by omega, List.take_length]
  | m + 1, i, h => by
    rw [gLoop, gT, List.append_assoc, read_one hu (by omega) (gT l (i + 1) m ++ T), if_neg (fun h => h rfl), take_rd (by omega)]
    exact loop_read hu T m (i + 1) (by omega)
theorem loop_cut {l : List Int} (hu : ∀ x ∈ l, U x) : ∀ m i, i + m = l.length → ∀ k, k < (gT l i m).length → gLoop m (l.take i) (gW l i) ((gT l i m).take k) = ([], 2)
  | 0, i, h, k, hk => by rw [gT] at hk; simp at hk
  | m + 1, i, h, k, hk => by
    rw [gT, List.length_append] at hk
    rw [gLoop, gT]
    by_cases hk1 : k < (gItem l i).length
    · rw [take_pre _ _ _ (by omega)]
      have := cut_one hu (show i < l.length by omega) hk1
      rw [this, if_pos (by decide)]
    · rw [take_app _ _ _ (by omega), read_one hu (by omega), if_neg (fun h => h rfl), take_rd (by omega)]
      exact loop_cut hu m (i + 1) (by omega) _ (by omega)
theorem dec_with {l : List Int} (hu : ∀ x ∈ l, U x) (hl : l.length ≤ 65536) (b T : List Int) (hb : unpack b = gB l l.length ++ T) : gDec b (l.length : Int) = if pack (gB l l.length) = b then (l, 0) else ([], 3) := by
  unfold gDec
  rw [if_neg (by omega), Int.toNat_natCast, hb, gB_all, show gLoop l.length [] (-1, 0) (gT l 0 l.length ++ T) = (l, 0) from loop_read hu T l.length 0 (by omega)]
  unfold gEnd
  rw [if_neg (fun h => h rfl), gB_all]
theorem gEnc_of {l : List Int} (hl : l.length ≤ 65536) : gEnc l = (pack (gB l l.length), 0) := if_neg (by omega)
theorem dec_back {l : List Int} (hu : ∀ x ∈ l, U x) (hl : l.length ≤ 65536) : gDec (gEnc l).1 (l.length : Int) = (l, 0) := by
  rw [gEnc_of hl, dec_with hu hl _ _ (unpack_pack (gB_01 l _)), if_pos rfl]
theorem dec_more {l : List Int} (hu : ∀ x ∈ l, U x) (hl : l.length ≤ 65536) (m : Int) : gDec ((gEnc l).1 ++ [m]) (l.length : Int) = ([], 3) := by
  rw [gEnc_of hl]
  have h := unpack_pack (gB_01 l l.length)
  rw [dec_with hu hl (pack (gB l l.length) ++ [m]) _ (by rw [unpack_append, h, List.append_assoc]), if_neg]
  intro e
  have := congrArg List.length e
  rw [List.length_append, List.length_singleton] at this
  omega
theorem dec_cut {l : List Int} (hu : ∀ x ∈ l, U x) (hl : l.length ≤ 65536) {k : Nat} (hk : k < (gEnc l).1.length) : (gDec ((gEnc l).1.take k) (l.length : Int)).2 = 2 := by
  rw [gEnc_of hl] at hk ⊢
  have hk : k < (pack (gB l l.length)).length := hk
  have hk2 := hk
  rw [pack_length] at hk2
  have h := unpack_pack (gB_01 l l.length)
  have hu2 : unpack ((pack (gB l l.length)).take k) = (gB l l.length).take (8 * k) := by
    have e : unpack (pack (gB l l.length)) = unpack ((pack (gB l l.length)).take k) ++ unpack ((pack (gB l l.length)).drop k) := by rw [← unpack_append, List.take_append_drop]
    have e2 : (unpack (pack (gB l l.length))).take (8 * k) = unpack ((pack (gB l l.length)).take k) := by
      rw [e]
      exact List.take_left' (by rw [unpack_length, List.length_take]; omega)
    rw [← e2, h, take_pre _ _ _ (by omega)]
  unfold gDec
  rw [if_neg (by omega), Int.toNat_natCast, hu2, gB_all, show gLoop l.length [] (-1, 0) ((gT l 0 l.length).take (8 * k)) = ([], 2) from loop_cut hu l.length 0 (by omega) (8 * k) (by rw [← gB_all]; omega)]
  rfl
end Go.Proofs.YtfpnoceppjjafaaDoor.P
