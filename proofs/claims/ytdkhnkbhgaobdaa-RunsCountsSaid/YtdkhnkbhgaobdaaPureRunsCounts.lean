/- For all lists of numbers (at most 600 are looked at): runs.Encode writes two varints for each run. No condition. -/
import Derived.Test.YtdkhnkbhgaobdaaRunsL
import Derived.Test.YtdkhnkbhgaobdaaPx6
namespace Go.Proofs.Ytdkhnkbhgaobdaa.Pure
open Go.RowKit Go.Proofs.Ytdkhnkbhgaobdaa.P Go.Proofs.Ytdkhnkbhgaobdaa.Kit Go.Proofs.Ytdkhnkbhgaobdaa.Var Go.Proofs.Ytdkhnkbhgaobdaa.Runs Go.Proofs.YtdkhnkbhgaobdaaW.PrintWords Go.Proofs.YtdkhnkbhgaobdaaW.PrintLast Go.Proofs.YtdkhnkbhgaobdaaW.PrintMore
set_option linter.unusedVariables false
set_option linter.unusedSimpArgs false

/-- How many bytes end a varint. -/
def ends (b : List Int) : Nat := (b.filter (fun x => decide (x < 128))).length
theorem ends_append (a b : List Int) : ends (a ++ b) = ends a + ends b := by
  unfold ends
  rw [List.filter_append, List.length_append]
theorem ends_vn (v : Nat) : ends (vn v) = 1 := by
  induction v using Nat.strongRecOn with
  | _ v ih =>
    rcases Nat.lt_or_ge v 128 with h | h
    · rw [vn_small v h]
      unfold ends
      rw [List.filter_cons_of_pos (by simp; omega)]
      rfl
    · rw [vn_big v h]
      have := ih (v / 128) (by omega)
      unfold ends at this ⊢
      rw [List.filter_cons_of_neg (by simp; omega)]
      exact this
/-- How many numbers differ from the one ahead. -/
def turns : List Int → Nat
  | v :: u :: t => (if u = v then 0 else 1) + turns (u :: t)
  | _ => 0
theorem ends_enc : ∀ (l : List Int) (n : Nat), l ≠ [] → ends (enc n l) = 2 * (1 + turns l)
  | [], _, h => absurd rfl h
  | [v], n, _ => by
    rw [enc, ends_append, ends_vn, ends_vn]
    rfl
  | v :: u :: t, n, _ => by
    rw [enc, turns]
    split
    · rw [ends_enc (u :: t) (n + 1) (by simp)]
      omega
    · rw [ends_append, ends_append, ends_vn, ends_vn, ends_enc (u :: t) 0 (by simp)]
      omega
theorem counts_l1 (b : List Int) (n : Nat) (hn : n ≤ 600) (hb : b.length ≤ 12000) (d : Nat) : ∀ (i c : Nat), i + d = b.length → c ≤ i → c + ends (b.drop i) = 2 * n → Evn (fun k => casketlaw07_RunsCounts.l1 k true b 0 (n : Int) (c : Int) (i : Int)) true := by
  induction d with
  | zero =>
    intro i c hi hc he
    rw [List.drop_of_length_le (by omega)] at he
    have he : c = 2 * n := he
    refine Evn.round ?_
    simp only [casketlaw07_RunsCounts.l1]
    refine Evn.neg (by omega) (Evn.pos (by trivial) (Evn.pos (by trivial) ((Evn.pure _).eq ?_)))
    rw [wrap64_id (by omega) (by omega), he]
    simp
  | succ d ih =>
    intro i c hi hc he
    have hlt : i < b.length := by omega
    have hd : b.drop i = rd b (i : Int) :: b.drop (i + 1) := by
      rw [List.drop_eq_getElem_cons hlt, rd_nat, List.getD_eq_getElem?_getD, List.getElem?_eq_getElem hlt]
      rfl
    rw [hd] at he
    have w1 : wrap64 ((i : Int) + 1) = ((i + 1 : Nat) : Int) := by rw [wrap64_id (by omega) (by omega)]; rfl
    have w2 : wrap64 ((c : Int) + 1) = ((c + 1 : Nat) : Int) := by rw [wrap64_id (by omega) (by omega)]; rfl
    refine Evn.round ?_
    simp only [casketlaw07_RunsCounts.l1, w1, w2]
    refine Evn.pos (by omega) (Evn.pos (by omega) ?_)
    by_cases hx : rd b (i : Int) < 128
    · refine Evn.pos hx (ih (i + 1) (c + 1) (by omega) (by omega) ?_)
      unfold ends at he ⊢
      rw [List.filter_cons_of_pos (by simpa using hx), List.length_cons] at he
      omega
    · refine Evn.neg hx (ih (i + 1) c (by omega) (by omega) ?_)
      unfold ends at he ⊢
      rw [List.filter_cons_of_neg (by simpa using hx)] at he
      exact he
theorem counts_l0 (l b : List Int) (hl : l.length ≤ 600) (hb : b.length ≤ 12000) (d : Nat) : ∀ (i c : Nat), i + d = l.length → c ≤ i → 0 < i → ends b = 2 * (c + turns (l.drop (i - 1))) → Evn (fun k => casketlaw07_RunsCounts.l0 k l true b 0 (c : Int) (i : Int)) true := by
  induction d with
  | zero =>
    intro i c hi hc h0 he
    have ht : turns (l.drop (i - 1)) = 0 := by
      rw [List.drop_eq_getElem_cons (show i - 1 < l.length by omega), List.drop_of_length_le (by omega)]
      rfl
    rw [ht, Nat.add_zero] at he
    refine Evn.round ?_
    simp only [casketlaw07_RunsCounts.l0]
    refine Evn.neg (by omega) ?_
    exact counts_l1 b c (by omega) hb b.length 0 0 (Nat.zero_add _) (Nat.le_refl _) (by rw [Nat.zero_add]; exact he)
  | succ d ih =>
    intro i c hi hc h0 he
    have hlt : i < l.length := by omega
    have hd1 : l.drop (i - 1) = rd l ((i - 1 : Nat) : Int) :: l.drop i := by
      rw [List.drop_eq_getElem_cons (show i - 1 < l.length by omega), show i - 1 + 1 = i by omega, rd_nat, List.getD_eq_getElem?_getD, List.getElem?_eq_getElem (show i - 1 < l.length by omega)]
      rfl
    have hd : l.drop i = rd l (i : Int) :: l.drop (i + 1) := by
      rw [List.drop_eq_getElem_cons hlt, rd_nat, List.getD_eq_getElem?_getD, List.getElem?_eq_getElem hlt]
      rfl
    rw [hd1, hd, turns, ← hd] at he
    have w1 : wrap64 ((i : Int) + 1) = ((i + 1 : Nat) : Int) := by rw [wrap64_id (by omega) (by omega)]; rfl
    have w2 : wrap64 ((c : Int) + 1) = ((c + 1 : Nat) : Int) := by rw [wrap64_id (by omega) (by omega)]; rfl
    have w3 : wrap64 ((i : Int) - 1) = ((i - 1 : Nat) : Int) := by rw [wrap64_id (by omega) (by omega)]; omega
    refine Evn.round ?_
    simp only [casketlaw07_RunsCounts.l0, w1, w2, w3]
    refine Evn.pos (by omega) (Evn.neg (by omega) (Evn.pos (by omega) (Evn.pos (by omega) (Evn.pos (by omega) ?_))))
    by_cases hx : rd l (i : Int) = rd l ((i - 1 : Nat) : Int)
    · rw [if_pos hx] at he
      exact Evn.pos hx (ih (i + 1) c (by omega) (by omega) (by omega) (by rw [show i + 1 - 1 = i by omega]; omega))
    · rw [if_neg hx] at he
      exact Evn.neg hx (ih (i + 1) (c + 1) (by omega) (by omega) (by omega) (by rw [show i + 1 - 1 = i by omega]; omega))
theorem RunsCounts : casketlaw07_RunsCounts.Pure := by
  intro l hm h8 hl
  have hu := us_of hl
  refine Evn.get (g := fun k => casketlaw07_RunsCounts.f k l) ?_
  unfold casketlaw07_RunsCounts.f
  refine Evn.bind awake_ev ?_
  by_cases c0 : (l.length : Int) > 600
  · exact Evn.pos c0 (Evn.pure _)
  have hlen := enc_length l 0 hu (by omega)
  refine Evn.neg c0 (Evn.bind (Enc_ev l hu (by omega)) ?_)
  by_cases hz : l = []
  · subst hz
    refine Evn.round ?_
    simp only [casketlaw07_RunsCounts.l0]
    refine Evn.neg (by simp) ?_
    exact counts_l1 [] 0 (by omega) (by simp) 0 0 0 rfl (Nat.le_refl _) rfl
  · have hp : 0 < l.length := List.length_pos_iff.mpr hz
    have h2 := counts_l0 l (enc 0 l) (by omega) (by omega) (l.length - 1) 1 1 (by omega) (by omega) (by omega) (by rw [ends_enc l 0 hz]; rfl)
    have w0 : wrap64 (0 + 1) = 1 := by decide +kernel
    refine Evn.round ?_
    simp only [casketlaw07_RunsCounts.l0, w0]
    exact Evn.pos (by omega) (Evn.pos (by trivial) h2)

end Go.Proofs.Ytdkhnkbhgaobdaa.Pure
