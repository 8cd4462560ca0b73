/- Only what differs counts: in plain lists. -/
import Derived.Test.YtfpnoceppjjafaaDoorGback
namespace Go.Proofs.YtfpnoceppjjafaaDoor.P
open Go.RowKit Go.Proofs.YtfpnoceppjjafaaDoor.Kit Go.Proofs.YtfpnoceppjjafaaDoorW.PrintWords Go.Proofs.YtfpnoceppjjafaaDoorW.PrintLast Go.Proofs.YtfpnoceppjjafaaDoorW.PrintMore
set_option linter.unusedVariables false
set_option linter.unusedSimpArgs false
theorem xw_same {a : Int} (ha : U a) : xw a a = 0 := by
  rw [xw_nat ha ha, Nat.xor_self]
  rfl
theorem xw_mask {a b m : Int} (ha : U a) (hb : U b) (hm : U m) : xw (xw a m) (xw b m) = xw a b := by
  have h1 := xw_U ha hm
  have h2 := xw_U hb hm
  rw [xw_nat h1 h2, xw_nat ha hm, xw_nat hb hm, xw_nat ha hb, Int.toNat_natCast, Int.toNat_natCast]
  congr 1
  apply Nat.eq_of_testBit_eq
  intro i
  simp only [Nat.testBit_xor]
  cases a.toNat.testBit i <;> cases b.toNat.testBit i <;> cases m.toNat.testBit i <;> rfl
/-- All of a list under a mask. -/
def mk (l : List Int) (m : Int) : List Int := l.map fun x => xw x m
theorem mk_len (l : List Int) (m : Int) : (mk l m).length = l.length := by simp [mk]
theorem mk_U {l : List Int} {m : Int} (hl : ∀ x ∈ l, U x) (hm : U m) : ∀ x ∈ mk l m, U x := fun x hx => by
  obtain ⟨y, hy, rfl⟩ := List.mem_map.1 hx
  exact xw_U (hl y hy) hm
theorem mk_rd {l : List Int} {m : Int} {i : Nat} (hi : i < l.length) : rd (mk l m) (i : Int) = xw (rd l (i : Int)) m := by
  rw [rd_nat, rd_nat]
  simp [mk, List.getD_eq_getElem?_getD, List.getElem?_eq_getElem hi]
theorem mk_dx {l : List Int} {m : Int} (hl : ∀ x ∈ l, U x) (hm : U m) {i : Nat} (h0 : 0 < i) (hi : i < l.length) : dx (mk l m) i = dx l i := by
  obtain ⟨j, rfl⟩ : ∃ j, i = j + 1 := ⟨i - 1, by omega⟩
  unfold dx
  rw [show (((j + 1 : Nat) : Int) - 1) = ((j : Nat) : Int) by omega, mk_rd hi, mk_rd (show j < l.length by omega)]
  exact xw_mask (hl _ (rd_mem l _ (by omega) (by omega))) (hl _ (rd_mem l _ (by omega) (by omega))) hm
theorem mk_gW {l : List Int} {m : Int} (hl : ∀ x ∈ l, U x) (hm : U m) : ∀ i, i ≤ l.length → gW (mk l m) i = gW l i
  | 0, _ => rfl
  | i + 1, h => by
    by_cases h0 : i = 0
    · subst h0
      rfl
    · rw [gW_succ _ h0, gW_succ _ h0, mk_gW hl hm i (by omega), mk_dx hl hm (by omega) (by omega)]
theorem mk_gT {l : List Int} {m : Int} (hl : ∀ x ∈ l, U x) (hm : U m) : ∀ d i, 0 < i → i + d = l.length → gT (mk l m) i d = gT l i d
  | 0, i, _, _ => rfl
  | d + 1, i, h0, h => by
    rw [gT, gT, mk_gT hl hm d (i + 1) (by omega) (by omega)]
    rw [show gItem (mk l m) i = stepB (gW (mk l m) i) (dx (mk l m) i) from if_neg (by omega), show gItem l i = stepB (gW l i) (dx l i) from if_neg (by omega), mk_gW hl hm i (by omega), mk_dx hl hm h0 (by omega)]
theorem pack_drop (a c : List Int) (q : Nat) (ha : a.length = 8 * q) : (pack (a ++ c)).drop q = pack c := by
  refine ext_bg (by rw [List.length_drop, pack_length, pack_length, List.length_append, ha]; omega) fun i hi => ?_
  rw [show bg ((pack (a ++ c)).drop q) i = bg (pack (a ++ c)) (q + i) by simp [bg, List.getD_eq_getElem?_getD, List.getElem?_drop], pack_bg, pack_bg]
  unfold byteAt
  have e : ∀ j, bg (a ++ c) (8 * (q + i) + j) = bg c (8 * i + j) := fun j => by
    rw [bg_right (by omega), show 8 * (q + i) + j - a.length = 8 * i + j by omega]
  have e0 := e 0
  rw [Nat.add_zero, Nat.add_zero] at e0
  rw [e0, e 1, e 2, e 3, e 4, e 5, e 6, e 7]
theorem enc_drop {l : List Int} (h0 : 0 < l.length) (hl : l.length ≤ 65536) : (gEnc l).1.drop 8 = pack (gT l 1 (l.length - 1)) ∧ 8 ≤ (gEnc l).1.length := by
  obtain ⟨d, hd⟩ : ∃ d, l.length = d + 1 := ⟨l.length - 1, by omega⟩
  have e : gB l l.length = bitsOf 64 (rd l 0) ++ gT l 1 (l.length - 1) := by
    rw [gB_all, hd, gT]
    rfl
  rw [gEnc_of hl]
  show (pack (gB l l.length)).drop 8 = _ ∧ 8 ≤ (pack (gB l l.length)).length
  rw [e, pack_length, List.length_append, bitsOf_length]
  exact ⟨pack_drop _ _ 8 (bitsOf_length 64 _), by omega⟩
theorem enc_mask {l : List Int} {m : Int} (hl : ∀ x ∈ l, U x) (hm : U m) (h0 : 0 < l.length) (h1 : l.length ≤ 65536) : (gEnc (mk l m)).1.drop 8 = (gEnc l).1.drop 8 := by
  rw [(enc_drop h0 h1).1, (enc_drop (l := mk l m) (by rw [mk_len]; exact h0) (by rw [mk_len]; exact h1)).1, mk_len, mk_gT hl hm (l.length - 1) 1 (by omega) (by omega)]
theorem rep_gT {m : Int} (hm : U m) (k : Nat) : ∀ d i, 0 < i → i + d = k → (gT (List.replicate k m) i d).length = d
  | 0, i, _, _ => rfl
  | d + 1, i, h0, h => by
    have hr : ∀ j : Nat, j < k → rd (List.replicate k m) (j : Int) = m := fun j hj => by
      rw [rd_nat]
      simp [List.getD_eq_getElem?_getD, List.getElem?_replicate, hj]
    obtain ⟨j, rfl⟩ : ∃ j, i = j + 1 := ⟨i - 1, by omega⟩
    have hd : dx (List.replicate k m) (j + 1) = 0 := by
      unfold dx
      rw [show (((j + 1 : Nat) : Int) - 1) = ((j : Nat) : Int) by omega, hr (j + 1) (by omega), hr j (by omega), xw_same hm]
    rw [gT, List.length_append, rep_gT hm k d (j + 1 + 1) (by omega) (by omega), show gItem (List.replicate k m) (j + 1) = stepB (gW (List.replicate k m) (j + 1)) (dx (List.replicate k m) (j + 1)) from if_neg (by omega), hd, show stepB (gW (List.replicate k m) (j + 1)) 0 = bitsOf 1 0 from if_pos rfl, bitsOf_length]
    omega
theorem enc_rep {m : Int} (hm : U m) {k : Nat} (h0 : 0 < k) (h1 : k ≤ 65536) : (gEnc (List.replicate k m)).2 = 0 ∧ (gEnc (List.replicate k m)).1.length = 8 + (k - 1 + 7) / 8 := by
  have hl : (List.replicate k m).length = k := List.length_replicate
  obtain ⟨d, rfl⟩ : ∃ d, k = d + 1 := ⟨k - 1, by omega⟩
  rw [gEnc_of (by omega)]
  refine ⟨rfl, ?_⟩
  show (pack (gB (List.replicate (d + 1) m) (List.replicate (d + 1) m).length)).length = _
  rw [pack_length, hl, gB_all, gT, List.length_append, rep_gT hm (d + 1) d (0 + 1) (by omega) (by omega), show (gItem (List.replicate (d + 1) m) 0).length = 64 from bitsOf_length 64 _]
  omega
end Go.Proofs.YtfpnoceppjjafaaDoor.P
