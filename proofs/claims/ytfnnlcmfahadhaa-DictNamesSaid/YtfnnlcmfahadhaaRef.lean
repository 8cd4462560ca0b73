/- What the document's own answers of layer 1 come to: bits as a list of 0 and 1. -/
import Derived.Test.YtfnnlcmfahadhaaBitS
import Derived.Test.YtfnnlcmfahadhaaPx8
import Derived.Test.YtfnnlcmfahadhaaPx9
import Derived.Test.YtfnnlcmfahadhaaPx12
import Derived.Test.YtfnnlcmfahadhaaPx4
import Derived.Test.YtfnnlcmfahadhaaVar
import Derived.Test.YtfnnlcmfahadhaaPx7
import Derived.Test.YtfnnlcmfahadhaaPx11
import Derived.Test.YtfnnlcmfahadhaaFix
import Derived.Test.YtfnnlcmfahadhaaCurS
import Derived.Lib.Strings
import Derived.Test.YtfnnlcmfahadhaaKit
namespace Go.Proofs.Ytfnnlcmfahadhaa.Var
open Go.RowKit Go.Proofs.Ytfnnlcmfahadhaa.P Go.Proofs.Ytfnnlcmfahadhaa.Kit Go.Proofs.YtfnnlcmfahadhaaW.PrintWords Go.Proofs.YtfnnlcmfahadhaaW.PrintLast Go.Proofs.YtfnnlcmfahadhaaW.PrintMore
set_option linter.unusedVariables false
set_option linter.unusedSimpArgs false

theorem bl_half {n : Nat} (h : n ≠ 0) (hn : n < 18446744073709551616) : Lib.bitLen n = Lib.bitLen (n / 2) + 1 := by
  rw [Lib.bitLen_half n h hn]
  omega
theorem bl_lt (n : Nat) : ∀ w, n < 18446744073709551616 → Lib.bitLen n ≤ w → n < 2 ^ w := by
  induction n using Nat.strongRecOn with
  | _ n ih =>
    intro w hn h
    rcases Nat.eq_zero_or_pos n with rfl | h0
    · exact Nat.two_pow_pos w
    · rw [bl_half (by omega) hn] at h
      obtain ⟨m, rfl⟩ : ∃ m, w = m + 1 := ⟨w - 1, by omega⟩
      have := ih (n / 2) (by omega) m (by omega) (by omega)
      rw [Nat.pow_succ]
      omega
theorem bl_le {n w : Nat} (hw : w ≤ 64) (h : n < 2 ^ w) : Lib.bitLen n ≤ w := Lib.bitLen_le n w hw h
theorem bl_zero : Lib.bitLen 0 = 0 := rfl
theorem bl_64 {v : Int} (h0 : 0 ≤ v) (h1 : v < 18446744073709551616) : Lib.bitLen v.toNat ≤ 64 := bl_le (Nat.le_refl _) (by omega)
theorem rWidth_loop (n : Nat) : ∀ acc : Nat, n < 18446744073709551616 → acc + Lib.bitLen n ≤ 64 → Evn (fun k => casketref01_Width.l0 k (n : Int) (acc : Int)) ((acc + Lib.bitLen n : Nat) : Int) := by
  induction n using Nat.strongRecOn with
  | _ n ih =>
    intro acc hn ha
    rcases Nat.eq_zero_or_pos n with rfl | h0
    · refine Evn.round ?_
      simp only [casketref01_Width.l0]
      refine Evn.neg (by omega) (Evn.pure _)
    · have e := bl_half (n := n) (by omega) hn
      have ed : IntKind.u64.wrap (Int.tdiv (n : Int) 2) = ((n / 2 : Nat) : Int) := by
        rw [k_tdiv _ _ (by omega), k64_id _ (by omega) (by omega)]
        omega
      refine Evn.round ?_
      simp only [casketref01_Width.l0]
      refine Evn.pos (by omega) ?_
      rw [ed, show wrap64 ((acc : Int) + 1) = ((acc + 1 : Nat) : Int) by rw [wrap64_id (by omega) (by omega)]; omega, show acc + Lib.bitLen n = acc + 1 + Lib.bitLen (n / 2) by omega]
      exact ih (n / 2) (by omega) (acc + 1) (by omega) (by omega)
theorem rWidth_ev (v : Int) (h0 : 0 ≤ v) (h1 : v < 18446744073709551616) : Evn (fun k => casketref01_Width.f k v) (Lib.bitLen v.toNat : Int) := by
  have := rWidth_loop v.toNat 0 (by omega) (by have := bl_64 h0 h1; omega)
  rw [show ((v.toNat : Nat) : Int) = v by omega, Nat.zero_add] at this
  exact this
theorem bit_at (v : Int) (i : Nat) (h0 : 0 ≤ v) (h1 : v < 18446744073709551616) (hi : i ≤ 64) : wrap64 (Go.bits .and .u64 (shr .u64 v (i : Int)) 1) = v / 2 ^ i % 2 := by
  have e : shr .u64 v (i : Int) = v / 2 ^ i := by
    show v / 2 ^ min ((i : Int)).toNat 64 = _
    rw [Int.toNat_natCast, Nat.min_eq_left hi]
  have hp : (0 : Int) < 2 ^ i := Int.pow_pos (by decide)
  have h2 : 0 ≤ v / 2 ^ i := Int.ediv_nonneg h0 (by omega)
  have h3 : v / 2 ^ i ≤ v := Int.ediv_le_self _ h0
  rw [e, k64_and1 _ h2 (by omega)]
  exact wrap64_id (by omega) (by omega)
theorem rPut_loop (v : Int) (h0 : 0 ≤ v) (h1 : v < 18446744073709551616) (d : Nat) : ∀ out : List Int, d ≤ 64 → out.length + d < 17592186044416 → Evn (fun k => casketref01_Put.l0 k v out ((d : Int) - 1)) (out ++ bitsOf d v, 0) := by
  induction d with
  | zero =>
    intro out _ _
    refine Evn.round ?_
    simp only [casketref01_Put.l0]
    refine Evn.neg (by omega) ?_
    rw [bitsOf, List.append_nil]
    exact Evn.pure _
  | succ d ih =>
    intro out hd hl
    have e1 : IntKind.u64.wrap (((d + 1 : Nat) : Int) - 1) = (d : Int) := by
      rw [k64_id _ (by omega) (by omega)]
      omega
    have e2 : wrap64 (((d + 1 : Nat) : Int) - 1 - 1) = (d : Int) - 1 := by rw [wrap64_id (by omega) (by omega)]; omega
    refine Evn.round ?_
    simp only [casketref01_Put.l0, e1, e2]
    refine Evn.pos (by omega) (Evn.pos (by omega) (Evn.pos (by omega) ?_))
    rw [bit_at v d h0 h1 (by omega), bitsOf]
    have := ih (out ++ [v / 2 ^ d % 2]) (by omega) (by simp; omega)
    rw [List.append_assoc, List.singleton_append] at this
    exact this
/-- Put: wrong widths and numbers that are too wide are refused. -/
def rPut (l : List Int) (v w : Int) : List Int × Int := if w < 0 ∨ 64 < w ∨ w < (Lib.bitLen v.toNat : Int) then (l, 1) else (l ++ bitsOf w.toNat v, 0)
theorem rPut_ev (l : List Int) (v w : Int) (h0 : 0 ≤ v) (h1 : v < 18446744073709551616) (hl : l.length + 64 < 17592186044416) : Evn (fun k => casketref01_Put.f k l v w) (rPut l v w) := by
  have bad : (w < 0 ∨ 64 < w ∨ w < (Lib.bitLen v.toNat : Int)) → Evn (fun k => casketref01_Put.j0 k l v w true) (rPut l v w) := by
    intro hb
    refine Evn.round ?_
    simp only [casketref01_Put.j0]
    refine Evn.pos trivial ?_
    unfold rPut
    rw [if_pos hb]
    exact Evn.pure _
  unfold casketref01_Put.f
  by_cases c0 : w < 0
  · exact Evn.pos c0 (bad (.inl c0))
  · refine Evn.neg c0 ?_
    by_cases c1 : w > 64
    · exact Evn.pos c1 (bad (.inr (.inl c1)))
    · refine Evn.neg c1 (Evn.bind (rWidth_ev v h0 h1) ?_)
      by_cases c2 : (Lib.bitLen v.toNat : Int) > w
      · rw [decide_eq_true c2]
        exact bad (.inr (.inr c2))
      · rw [decide_eq_false c2]
        refine Evn.round ?_
        simp only [casketref01_Put.j0]
        refine Evn.neg (by simp) (Evn.bindc rfl (Evn.pos (by simp; omega) ?_))
        obtain ⟨d, rfl⟩ := Int.eq_ofNat_of_zero_le (show 0 ≤ w by omega)
        unfold rPut
        rw [if_neg (by omega), List.nil_append, Int.toNat_natCast, wrap64_id (by omega) (by omega)]
        exact rPut_loop v h0 h1 d l (by omega) (by omega)
theorem Same1_loop (a b : List Int) (hl : a.length = b.length) (hs : a.length < 140737488355328) (d i : Nat) (hi : i + d = a.length) (h : a.take i = b.take i) : Evn (fun k => casketref01_Same.l0 k a b (i : Int)) (decide (a = b)) := by
  induction d generalizing i with
  | zero =>
    refine Evn.succ (G := fun _ => some true) ?_ fun k => ?_
    · refine (Evn.pure true).eq ?_
      rw [List.take_of_length_le (by omega), List.take_of_length_le (by omega)] at h
      simp [h]
    · simp only [casketref01_Same.l0]
      rw [if_neg (by omega)]
  | succ d ih =>
    by_cases he : rd a (i : Int) = rd b (i : Int)
    · refine Evn.succ (ih (i + 1) (by omega) ?_) fun k => ?_
      · rw [List.take_add_one, List.take_add_one, h]
        have h1 : i < a.length := by omega
        have h2 : i < b.length := by omega
        simp only [rd_nat, List.getD_eq_getElem?_getD, List.getElem?_eq_getElem h1, List.getElem?_eq_getElem h2, Option.getD_some] at he
        rw [List.getElem?_eq_getElem h1, List.getElem?_eq_getElem h2, he]
      · simp only [casketref01_Same.l0]
        rw [if_pos (by omega), if_pos (by omega), if_pos (by omega), if_pos he, show wrap64 ((i : Int) + 1) = ((i + 1 : Nat) : Int) by unfold wrap64; omega]
    · refine Evn.succ (G := fun _ => some false) ?_ fun k => ?_
      · refine (Evn.pure false).eq ?_
        have : a ≠ b := fun e => he (by rw [e])
        simp [this]
      · simp only [casketref01_Same.l0]
        rw [if_pos (by omega), if_pos (by omega), if_pos (by omega), if_neg he]
theorem Same1_ev (a b : List Int) (hs : a.length < 140737488355328) : Evn (fun k => casketref01_Same.f k a b) (decide (a = b)) := by
  unfold casketref01_Same.f
  by_cases hl : a.length = b.length
  · refine Evn.pos (by omega) ?_
    exact Same1_loop a b hl hs a.length 0 (by omega) (by simp)
  · refine Evn.neg (by omega) ?_
    refine (Evn.pure false).eq ?_
    have : a ≠ b := fun e => hl (by rw [e])
    simp [this]
theorem Same1_self (a : List Int) (hs : a.length < 140737488355328) : Evn (fun k => casketref01_Same.f k a a) true := (Same1_ev a a hs).eq (by simp)
/-! Of, Get, End -/
theorem bit8_at (x : Int) (j : Nat) (h0 : 0 ≤ x) (h1 : x < 256) (hj : j ≤ 8) : wrap64 (Go.bits .and .u8 (shr .u8 x (j : Int)) 1) = x / 2 ^ j % 2 := by
  have e : shr .u8 x (j : Int) = x / 2 ^ j := by
    show x / 2 ^ min ((j : Int)).toNat 8 = _
    rw [Int.toNat_natCast, Nat.min_eq_left hj]
  have hp : (0 : Int) < 2 ^ j := Int.pow_pos (by decide)
  have h2 : 0 ≤ x / 2 ^ j := Int.ediv_nonneg h0 (by omega)
  have h3 : x / 2 ^ j ≤ x := Int.ediv_le_self _ h0
  rw [e, bit_val _ h2 (by omega)]
  exact wrap64_id (by omega) (by omega)
theorem rOf_byte (b : List Int) (i : Nat) (hi : i < b.length) (hx : 0 ≤ rd b (i : Int) ∧ rd b (i : Int) < 256) (r : List Int) (d : Nat) : ∀ out : List Int, d ≤ 8 → out.length + d < 17592186044416 →
    Evn (fun k => casketref01_Of.l0 k b (out ++ bitsOf d (rd b (i : Int))) (wrap64 ((i : Int) + 1))) r → Evn (fun k => casketref01_Of.l1 k b out (i : Int) ((d : Int) - 1)) r := by
  induction d with
  | zero =>
    intro out _ _ h
    rw [bitsOf, List.append_nil] at h
    refine Evn.round ?_
    simp only [casketref01_Of.l1]
    exact Evn.neg (by omega) h
  | succ d ih =>
    intro out hd hl h
    have e1 : IntKind.u64.wrap (((d + 1 : Nat) : Int) - 1) = (d : Int) := by
      rw [k64_id _ (by omega) (by omega)]
      omega
    have e2 : wrap64 (((d + 1 : Nat) : Int) - 1 - 1) = (d : Int) - 1 := by rw [wrap64_id (by omega) (by omega)]; omega
    refine Evn.round ?_
    simp only [casketref01_Of.l1, e1, e2]
    refine Evn.pos (by omega) (Evn.pos (by omega) (Evn.pos (by omega) (Evn.pos (by omega) (Evn.pos (by omega) ?_))))
    rw [bit8_at _ d hx.1 hx.2 (by omega)]
    refine ih _ (by omega) (by simp; omega) ?_
    rw [List.append_assoc, List.singleton_append]
    rw [bitsOf] at h
    exact h
theorem rOf_loop (t : List Int) : ∀ (p : List Int), isBy (p ++ t) → 8 * (p ++ t).length < 17592186044416 → Evn (fun k => casketref01_Of.l0 k (p ++ t) (unpack p) (p.length : Int)) (unpack (p ++ t)) := by
  induction t with
  | nil =>
    intro p _ _
    refine Evn.round ?_
    simp only [casketref01_Of.l0]
    refine Evn.neg (by simp) ?_
    rw [List.append_nil]
    exact Evn.pure _
  | cons x t ih =>
    intro p hb hl
    have hr : rd (p ++ x :: t) (p.length : Int) = x := rd_mid _ _ _ _ rfl
    have hx := hb x (by simp)
    refine Evn.round ?_
    simp only [casketref01_Of.l0]
    refine Evn.pos (by simp; omega) ?_
    refine rOf_byte (p ++ x :: t) p.length (by simp) (by rw [hr]; exact hx) _ 8 (unpack p) (by omega) (by simp at hl; rw [unpack_length]; omega) ?_
    rw [hr]
    have h2 := ih (p ++ [x]) (by rw [List.append_assoc]; exact hb) (by rw [List.append_assoc]; exact hl)
    rw [List.append_assoc, List.singleton_append, unpack_append, List.length_append, List.length_singleton, unpack_cons, show unpack [] = [] from rfl, List.append_nil] at h2
    rw [show wrap64 ((p.length : Int) + 1) = ((p.length + 1 : Nat) : Int) by
      simp at hl
      rw [wrap64_id (by omega) (by omega)]
      omega]
    exact h2
theorem rOf_ev (b : List Int) (hb : isBy b) (hl : 8 * b.length < 17592186044416) : Evn (fun k => casketref01_Of.f k b) (unpack b) := by
  unfold casketref01_Of.f
  exact rOf_loop b [] hb hl
theorem rGet_step (x y : Int) (w : Nat) (hw : w < 64) (hx0 : 0 ≤ x) (hx : x < 2 ^ w) (hy : y = 0 ∨ y = 1) : IntKind.u64.wrap ((IntKind.u64.wrap (x * 2)) + (IntKind.u64.wrap y)) = x * 2 + y ∧ 0 ≤ x * 2 + y ∧ x * 2 + y < 2 ^ (w + 1) := by
  have h3 : (2 : Int) ^ w ≤ 2 ^ 63 := by exact_mod_cast Nat.pow_le_pow_right (by decide) (show w ≤ 63 by omega)
  rw [k64_id (x * 2) (by omega) (by omega), k64_id y (by omega) (by omega), k64_id (x * 2 + y) (by omega) (by omega), Int.pow_succ]
  omega
theorem rGet_loop (l : List Int) (h01 : is01 l) (w : Nat) (hw : w ≤ 64) (hl : w ≤ l.length) (d : Nat) : ∀ i x, i + d = w → 0 ≤ x → x < 2 ^ i → Evn (fun k => casketref01_Get.l0 k l (w : Int) x (i : Int)) (valL x ((l.drop i).take d), l.drop w, 0) := by
  induction d with
  | zero =>
    intro i x hi _ _
    refine Evn.round ?_
    simp only [casketref01_Get.l0]
    refine Evn.neg (by omega) (Evn.pos (by omega) (Evn.pos (by omega) ?_))
    rw [List.take_zero]
    exact Evn.pure _
  | succ d ih =>
    intro i x hi hx0 hx
    obtain ⟨e1, e2, e3⟩ := rGet_step x (bg l i) i (by omega) hx0 hx (bg01 h01 i)
    have h2 := ih (i + 1) (x * 2 + bg l i) (by omega) e2 e3
    rw [drop_bg (l := l) (n := i) (by omega), List.take_succ_cons, valL_cons]
    refine Evn.round ?_
    simp only [casketref01_Get.l0]
    refine Evn.pos (by omega) (Evn.pos (by omega) (Evn.pos (by omega) ?_))
    rw [bg_rd, e1, show wrap64 ((i : Int) + 1) = ((i + 1 : Nat) : Int) by rw [wrap64_id (by omega) (by omega)]; omega]
    exact h2
/-- Get: a number of the first bits, those behind, and why not. -/
def rGet2 (l : List Int) (w : Int) : Int × List Int × Int := if w < 0 ∨ 64 < w then (0, l, 1) else if l.length < w.toNat then (0, l, 2) else (valL 0 (l.take w.toNat), l.drop w.toNat, 0)
theorem rGet_ev (l : List Int) (w : Int) (h01 : is01 l) : Evn (fun k => casketref01_Get.f k l w) (rGet2 l w) := by
  unfold casketref01_Get.f rGet2
  by_cases c0 : w < 0
  · refine Evn.pos c0 (Evn.round ?_)
    simp only [casketref01_Get.j0]
    rw [if_pos (.inl c0)]
    exact Evn.pos trivial (Evn.pure _)
  · refine Evn.neg c0 (Evn.round ?_)
    simp only [casketref01_Get.j0]
    by_cases c1 : w > 64
    · rw [if_pos (.inr c1)]
      exact Evn.pos (by simp; omega) (Evn.pure _)
    · rw [if_neg (by omega)]
      refine Evn.neg (by simp; omega) ?_
      obtain ⟨d, rfl⟩ := Int.eq_ofNat_of_zero_le (show 0 ≤ w by omega)
      rw [Int.toNat_natCast]
      by_cases c2 : l.length < d
      · rw [if_pos c2]
        exact Evn.pos (by omega) (Evn.pure _)
      · rw [if_neg c2]
        refine Evn.neg (by omega) ?_
        have := rGet_loop l h01 d (by omega) (by omega) d 0 0 (by omega) (by omega) (by omega)
        rw [List.drop_zero] at this
        exact this
/-! Bytes -/
theorem pack_behind (a c : List Int) (q : Nat) (ha : a.length = 8 * q) (h0 : 0 < c.length) (h8 : c.length ≤ 8) : pack (a ++ c) = pack a ++ [valL 0 (c ++ List.replicate (8 - c.length) 0)] := by
  have hla : (pack a).length = q := by rw [pack_length]; omega
  refine ext_bg (by rw [pack_length, List.length_append, List.length_append, hla, List.length_singleton]; omega) fun i hi => ?_
  rw [pack_length, List.length_append] at hi
  rw [pack_bg]
  by_cases hq : i < q
  · rw [bg_left (by omega), pack_bg]
    unfold byteAt
    rw [bg_left (by omega), bg_left (by omega), bg_left (by omega), bg_left (by omega), bg_left (by omega), bg_left (by omega), bg_left (by omega), bg_left (by omega)]
  · have e : i = q := by omega
    subst e
    rw [bg_right (by omega), hla, Nat.sub_self]
    unfold byteAt
    rw [bg_right (by omega), bg_right (by omega), bg_right (by omega), bg_right (by omega), bg_right (by omega), bg_right (by omega), bg_right (by omega), bg_right (by omega)]
    rw [show 8 * i - a.length = 0 by omega, show 8 * i + 1 - a.length = 1 by omega, show 8 * i + 2 - a.length = 2 by omega, show 8 * i + 3 - a.length = 3 by omega, show 8 * i + 4 - a.length = 4 by omega, show 8 * i + 5 - a.length = 5 by omega, show 8 * i + 6 - a.length = 6 by omega, show 8 * i + 7 - a.length = 7 by omega]
    clear ha hla hi hq
    match c, h0, h8 with
    | [x1], _, _ => simp [bg, valL, List.replicate]; omega
    | [x1, x2], _, _ => simp [bg, valL, List.replicate]; omega
    | [x1, x2, x3], _, _ => simp [bg, valL, List.replicate]; omega
    | [x1, x2, x3, x4], _, _ => simp [bg, valL, List.replicate]; omega
    | [x1, x2, x3, x4, x5], _, _ => simp [bg, valL, List.replicate]; omega
    | [x1, x2, x3, x4, x5, x6], _, _ => simp [bg, valL, List.replicate]; omega
    | [x1, x2, x3, x4, x5, x6, x7], _, _ => simp [bg, valL, List.replicate]; omega
    | [x1, x2, x3, x4, x5, x6, x7, x8], _, _ => simp [bg, valL]; omega
theorem tmod_nat8 (n : Nat) : Int.tmod (n : Int) 8 = ((n % 8 : Nat) : Int) := by
  rw [k_tmod _ _ (by omega)]
  omega
theorem tdiv_nat8 (n : Nat) (h : n < 140737488355328) : wrap64 (Int.tdiv (n : Int) 8) = ((n / 8 : Nat) : Int) := by
  rw [k_tdiv _ _ (by omega), wrap64_id (by omega) (by omega)]
  omega
theorem val_small {c : List Int} (h : is01 c) (hl : c.length ≤ 7) : 0 ≤ valL 0 c ∧ valL 0 c < 128 := by
  obtain ⟨b0, b1⟩ := valL_bd h
  have hp : (2 : Int) ^ c.length ≤ 2 ^ 7 := by exact_mod_cast Nat.pow_le_pow_right (by decide) hl
  have e : (2 : Int) ^ 7 = 128 := by decide
  rw [e] at hp
  exact ⟨b0, Int.lt_of_lt_of_le b1 hp⟩
theorem rBytes_pad (a c : List Int) (q : Nat) (ha : a.length = 8 * q) (hq : q < 140737488355328) (h01 : is01 c) (h0 : 0 < c.length) (h8 : c.length ≤ 8) (d : Nat) : ∀ j, c.length + j + d = 8 → Evn (fun k => casketref01_Bytes.l1 k (pack a ++ [valL 0 (c ++ List.replicate j 0)]) ((8 * q + c.length + j : Nat) : Int)) (pack (a ++ c)) := by
  have hla : (pack a).length = q := by rw [pack_length]; omega
  induction d with
  | zero =>
    intro j hj
    refine Evn.round ?_
    simp only [casketref01_Bytes.l1, tmod_nat8]
    refine Evn.pos (by omega) ?_
    rw [pack_behind a c q ha h0 h8, show 8 - c.length = j by omega]
    exact Evn.pure _
  | succ d ih =>
    intro j hj
    have h2 := ih (j + 1) (by omega)
    have hv : is01 (c ++ List.replicate j 0) := is01_append h01 fun x hx => .inl (List.eq_of_mem_replicate hx)
    obtain ⟨b0, b1⟩ := val_small hv (by simp; omega)
    have e1 : wrap64 (((pack a ++ [valL 0 (c ++ List.replicate j 0)]).length : Int) - 1) = (q : Int) := by
      rw [List.length_append, hla, List.length_singleton, wrap64_id (by omega) (by omega)]
      omega
    have e2 : wrap64 (((8 * q + c.length + j : Nat) : Int) + 1) = ((8 * q + c.length + (j + 1) : Nat) : Int) := by
      rw [wrap64_id (by omega) (by omega)]
      omega
    refine Evn.round ?_
    simp only [casketref01_Bytes.l1, tmod_nat8, e1, e2]
    clear e1 e2
    refine Evn.neg (by omega) (Evn.pos (by omega) (Evn.pos (by rw [List.length_append, hla, List.length_singleton]; omega) ?_))
    rw [rd_mid _ _ _ _ (by rw [hla]), Int.toNat_natCast, set_mid _ _ _ _ _ hla.symm]
    rw [List.replicate_succ', ← List.append_assoc, valL_append] at h2
    rw [show valL 0 (c ++ List.replicate j 0) * 2 % 256 = valL (valL 0 (c ++ List.replicate j 0)) [0] by
      show _ = valL 0 (c ++ List.replicate j 0) * 2 + 0
      omega]
    exact h2
def part (c : List Int) : List Int := if c = [] then [] else [valL 0 c]
theorem part_cons (c : List Int) (h : 0 < c.length) : part c = [valL 0 c] := by
  unfold part
  rw [if_neg]
  rintro rfl
  simp at h
/-- One bit more: the state behind it. -/
theorem part_step (a c : List Int) (x : Int) (q : Nat) (ha : a.length = 8 * q) (hc : c.length < 8) : ∃ a' c' q', a' ++ c' = a ++ c ++ [x] ∧ a'.length = 8 * q' ∧ c'.length < 8 ∧ 8 * q' + c'.length = 8 * q + c.length + 1 ∧ pack a' ++ part c' = pack a ++ [valL 0 c * 2 + x] := by
  have ev : valL 0 c * 2 + x = valL 0 (c ++ [x]) := by rw [valL_append]; rfl
  have hlen : (c ++ [x]).length = c.length + 1 := by rw [List.length_append, List.length_singleton]
  by_cases h7 : c.length + 1 < 8
  · refine ⟨a, c ++ [x], q, by rw [List.append_assoc], ha, by omega, by omega, ?_⟩
    rw [part_cons _ (by omega), ev]
  · have l1 : (a ++ (c ++ [x])).length = 8 * (q + 1) := by
      rw [List.length_append, ha, hlen]
      omega
    refine ⟨a ++ (c ++ [x]), [], q + 1, by rw [List.append_nil, List.append_assoc], l1, by decide, by simp only [List.length_nil]; omega, ?_⟩
    rw [show part [] = [] from rfl, List.append_nil, pack_behind a (c ++ [x]) q ha (by omega) (by omega), hlen, show 8 - (c.length + 1) = 0 by omega, List.replicate_zero, List.append_nil, ev]
theorem rBytes_loop (L : List Int) (h01 : is01 L) (hl : L.length < 140737488355328) (t : List Int) : ∀ (a c : List Int) (q : Nat), L = a ++ c ++ t → a.length = 8 * q → c.length < 8 →
    Evn (fun k => casketref01_Bytes.l0 k L (pack a ++ part c) ((8 * q + c.length : Nat) : Int)) (pack L) := by
  have hlL : L.length < 140737488355328 := hl
  induction t with
  | nil =>
    intro a c q e ha hc
    rw [List.append_nil] at e
    have hLl : L.length = 8 * q + c.length := by rw [e, List.length_append, ha]
    refine Evn.round ?_
    simp only [casketref01_Bytes.l0]
    refine Evn.neg (by omega) ?_
    rw [hLl]
    rcases Nat.eq_zero_or_pos c.length with h0 | h0
    · have hc0 : c = [] := List.eq_nil_of_length_eq_zero h0
      subst hc0
      refine Evn.round ?_
      simp only [casketref01_Bytes.l1, tmod_nat8]
      refine Evn.pos (by simp) ?_
      rw [show part [] = [] from rfl, List.append_nil, e, List.append_nil]
      exact Evn.pure _
    · have := rBytes_pad a c q ha (by omega) (fun x hx => h01 x (by rw [e]; exact List.mem_append_right _ hx)) h0 (by omega) (8 - c.length) 0 (by omega)
      rw [List.replicate_zero, List.append_nil, Nat.add_zero] at this
      rw [part_cons c h0, e]
      exact this
  | cons x t ih =>
    intro a c q e ha hc
    have hla : (pack a).length = q := by rw [pack_length]; omega
    have hx := h01 x (by rw [e]; simp)
    have hcb : is01 c := fun y hy => h01 y (by rw [e]; simp [hy])
    obtain ⟨b0, b1⟩ := val_small hcb (by omega)
    have hr : rd L ((8 * q + c.length : Nat) : Int) = x := by
      rw [e]
      exact rd_mid _ _ _ _ (by rw [List.length_append, ha])
    have hlen : L.length = 8 * q + c.length + (t.length + 1) := by
      rw [e, List.length_append, List.length_append, ha, List.length_cons]
    have e0 := tdiv_nat8 (8 * q + c.length) (by omega)
    rw [show (8 * q + c.length) / 8 = q by omega] at e0
    have e2 : wrap64 (((8 * q + c.length : Nat) : Int) + 1) = ((8 * q + c.length + 1 : Nat) : Int) := by
      rw [wrap64_id (by omega) (by omega)]
      omega
    obtain ⟨a', c', q', f1, f2, f3, f4, f5⟩ := part_step a c x q ha hc
    have key := ih a' c' q' (by rw [f1, e]; simp) f2 f3
    rw [f4, f5] at key
    clear ih f1 f2 f3 f4 f5
    refine Evn.round ?_
    simp only [casketref01_Bytes.l0, e0, e2, hr, tmod_nat8]
    clear e0 e2 hr
    refine Evn.pos (by omega) ?_
    rcases Nat.eq_zero_or_pos c.length with h0 | h0
    · have hc0 : c = [] := List.eq_nil_of_length_eq_zero h0
      have hp : part c = [] := by rw [hc0]; rfl
      have hv : valL 0 c = 0 := by rw [hc0]; rfl
      rw [hp, List.append_nil]
      rw [hv] at key
      refine Evn.pos (by omega) (Evn.pos (by omega) (Evn.bindc rfl (Evn.pos (by omega) (Evn.pos (by rw [List.length_append, hla, List.length_singleton]; omega) (Evn.pos (by omega) ?_)))))
      rw [rd_mid _ _ _ _ (by rw [hla]), Int.toNat_natCast, set_mid _ _ _ _ _ hla.symm, show (0 * 2 % 256 + x % 256) % 256 = 0 * 2 + x by omega]
      exact key
    · rw [part_cons c h0]
      refine Evn.neg (by omega) (Evn.pos (by omega) (Evn.pos (by rw [List.length_append, hla, List.length_singleton]; omega) (Evn.pos (by omega) ?_)))
      rw [rd_mid _ _ _ _ (by rw [hla]), Int.toNat_natCast, set_mid _ _ _ _ _ hla.symm, show (valL 0 c * 2 % 256 + x % 256) % 256 = valL 0 c * 2 + x by omega]
      exact key
theorem rBytes_ev (l : List Int) (h01 : is01 l) (hl : l.length < 140737488355328) : Evn (fun k => casketref01_Bytes.f k l) (pack l) := by
  unfold casketref01_Bytes.f
  have := rBytes_loop l h01 hl l [] [] 0 (by simp) rfl (by simp)
  simpa [part, pack] using this
end Go.Proofs.Ytfnnlcmfahadhaa.Var

/- What the document's own Append and Read of varints (layer 2) come to. -/
namespace Go.Proofs.Ytfnnlcmfahadhaa.Var
open Go.RowKit Go.Proofs.Ytfnnlcmfahadhaa.P Go.Proofs.Ytfnnlcmfahadhaa.Kit Go.Proofs.YtfnnlcmfahadhaaW.PrintWords Go.Proofs.YtfnnlcmfahadhaaW.PrintLast Go.Proofs.YtfnnlcmfahadhaaW.PrintMore
set_option linter.unusedVariables false
set_option linter.unusedSimpArgs false

theorem rAppend_loop (v : Nat) : ∀ b : List Int, v < 18446744073709551616 → b.length + (vn v).length < 140737488355328 → Evn (fun k => casketref02_Append.l0 k (v : Int) b) (b ++ vn v) := by
  induction v using Nat.strongRecOn with
  | _ v ih =>
    intro b hv hb
    have ed : IntKind.u64.wrap (Int.tdiv (v : Int) 128) = ((v / 128 : Nat) : Int) := by
      rw [k_tdiv _ _ (by omega), k64_id _ (by omega) (by omega)]
      omega
    rcases Nat.lt_or_ge v 128 with h | h
    · rw [vn_small v h] at hb ⊢
      refine Evn.succ (Evn.pure _) fun k => ?_
      simp only [casketref02_Append.l0]
      rw [ed, if_neg (by omega), if_pos (by simp at hb; omega), show (v : Int) % 256 = (v : Int) by omega]
    · rw [vn_big v h] at hb ⊢
      have h2 := ih (v / 128) (by omega) (b ++ [((v % 128 + 128 : Nat) : Int)]) (by omega) (by simp at hb ⊢; omega)
      rw [List.append_assoc, List.singleton_append] at h2
      refine Evn.succ h2 fun k => ?_
      simp only [casketref02_Append.l0]
      rw [ed, if_pos (by omega), if_pos (by simp at hb; omega), k_tmod _ _ (by omega), show ((v : Int) % 128 + 128) % 256 = ((v % 128 + 128 : Nat) : Int) by omega]
theorem rAppend_nat (b : List Int) (v : Nat) (hb : b.length + 10 < 140737488355328) (hv : v < 18446744073709551616) : Evn (fun k => casketref02_Append.f k b (v : Int)) (b ++ vn v) := by
  have := vn_len10 v hv
  unfold casketref02_Append.f
  refine Evn.bindc (a := []) rfl ?_
  refine Evn.pos (by simp; omega) ?_
  exact rAppend_loop v b hv (by omega)
theorem rAppend_ev (b : List Int) (v : Int) (hb : b.length + 10 < 140737488355328) (h0 : 0 ≤ v) (h1 : v < 18446744073709551616) : Evn (fun k => casketref02_Append.f k b v) (b ++ vn v.toNat) := by
  have := rAppend_nat b v.toNat hb (by omega)
  rwa [show ((v.toNat : Nat) : Int) = v by omega] at this
theorem rRead_loop (b : List Int) (hl : b.length < 140737488355328) (hb : Bytes b) (t : List Int) : ∀ (p : List Int) (acc : Int), b = p ++ t → p.length ≤ 9 → 0 ≤ acc → acc < 2 ^ (7 * p.length) → Evn (fun k => casketref02_Read.l0 k b acc (p.length : Int)) (vread t p.length acc) := by
  induction t with
  | nil =>
    intro p acc e _ _ _
    refine Evn.succ (Evn.pure _) fun k => ?_
    simp only [casketref02_Read.l0]
    rw [if_neg (by rw [e]; simp)]
    rfl
  | cons x t ih =>
    intro p acc e hp h0 h1
    have hx := hb x (by rw [e]; simp)
    have hr : rd b (p.length : Int) = x := by
      rw [e]
      exact rd_mid _ _ _ _ rfl
    have hlt : (p.length : Int) < (b.length : Int) := by
      rw [e]
      simp
      omega
    have hw : wrap64 ((p.length : Int) + 1) = ((p.length + 1 : Nat) : Int) := by
      unfold wrap64
      omega
    have h7 : IntKind.u64.wrap (wrap64 (7 * (p.length : Int))) = wrap64 (7 * (p.length : Int)) := by
      rw [wrap64_id (by omega) (by omega)]
      exact k64_id _ (by omega) (by omega)
    have key : ∀ fl : Bool, fl = decide (p.length = 9 ∧ 1 < x) → Evn (fun k => casketref02_Read.j1 k b acc (p.length : Int) fl) (vread (x :: t) p.length acc) := by
      intro fl hfl
      rw [vread]
      by_cases c1 : p.length = 9 ∧ 1 < x
      · rw [if_pos c1, hfl, decide_eq_true c1]
        refine Evn.succ (Evn.pure _) fun k => ?_
        simp only [casketref02_Read.j1]
        rw [if_pos trivial]
      · rw [if_neg c1, hfl, decide_eq_false c1]
        have hpos : 0 ≤ wrap64 (7 * (p.length : Int)) := by
          rw [wrap64_id (by omega) (by omega)]
          omega
        by_cases c2 : 128 ≤ x
        · obtain ⟨z1, z2, z3, z4, z5⟩ := put7 p.length acc (x - 128) hp (by omega) (by omega) (by omega) h0 h1
          rw [if_pos c2]
          have h2 := ih (p ++ [x]) (acc + (x - 128) * 2 ^ (7 * p.length)) (by rw [e]; simp) (by simp; omega) z4 (by simpa using z5)
          simp only [List.length_append, List.length_singleton] at h2
          refine Evn.succ h2 fun k => ?_
          simp only [casketref02_Read.j1]
          rw [if_neg (by simp), if_pos (by omega), if_pos hlt, h7, if_pos hpos, hr, if_neg (by omega), k_tmod _ _ hx.1, show x % 128 = x - 128 by omega, z1, k64_id _ z4 z3, hw]
        · obtain ⟨z1, z2, z3, z4, z5⟩ := put7 p.length acc x hp (by omega) (by omega) (by omega) h0 h1
          rw [if_neg c2]
          refine Evn.succ (Evn.pure _) fun k => ?_
          simp only [casketref02_Read.j1]
          rw [if_neg (by simp), if_pos (by omega), if_pos hlt, h7, if_pos hpos, hr, if_pos (by omega), k_tmod _ _ hx.1, show x % 128 = x by omega, z1, k64_id _ z4 z3, hw]
          by_cases c4 : 0 < p.length
          · rw [if_pos (by omega)]
            by_cases c3 : x = 0
            · rw [if_pos c3, if_pos ⟨c3, c4⟩]
            · rw [if_neg c3, if_neg (fun h => c3 h.1)]
          · rw [if_neg (by omega), if_neg (fun h => c4 h.2)]
    by_cases c9 : (p.length : Int) = 9
    · refine Evn.succ (key (decide (x > 1)) (by simp [show p.length = 9 by omega])) fun k => ?_
      simp only [casketref02_Read.l0]
      rw [if_pos hlt, if_pos c9, if_pos (by omega), hr]
    · refine Evn.succ (key false (by simp; omega)) fun k => ?_
      simp only [casketref02_Read.l0]
      rw [if_pos hlt, if_neg c9]
theorem rRead_ev (b : List Int) (hb : Bytes b) (hl : b.length < 140737488355328) : Evn (fun k => casketref02_Read.f k b) (vread b 0 0) := by
  unfold casketref02_Read.f
  exact rRead_loop b hl hb b [] 0 rfl (by simp) (by omega) (by simp)
end Go.Proofs.Ytfnnlcmfahadhaa.Var

/- Numbers in so many bytes: what the document's Fix comes to. -/
namespace Go.Proofs.Ytfnnlcmfahadhaa.Var
open Go.RowKit Go.Proofs.Ytfnnlcmfahadhaa.P Go.Proofs.Ytfnnlcmfahadhaa.Kit Go.Proofs.YtfnnlcmfahadhaaW.PrintWords Go.Proofs.YtfnnlcmfahadhaaW.PrintLast Go.Proofs.YtfnnlcmfahadhaaW.PrintMore
set_option linter.unusedVariables false
set_option linter.unusedSimpArgs false

theorem rFix_loop (v : Int) (i : Nat) : ∀ (out : List Int), i + out.length ≤ 8 → Evn (fun k => casketref03_Fix.l0 k v out ((i : Int) - 1)) (out ++ fixB i v) := by
  induction i with
  | zero =>
    intro out _
    refine Evn.round ?_
    simp only [casketref03_Fix.l0]
    refine Evn.neg (by omega) ?_
    rw [fixB, List.append_nil]
    exact Evn.pure _
  | succ i ih =>
    intro out hi
    have w1 : IntKind.u64.wrap (wrap64 (8 * (((i + 1 : Nat) : Int) - 1))) = ((8 * i : Nat) : Int) := by
      rw [wrap64_id (by omega) (by omega), k64_id _ (by omega) (by omega)]
      omega
    have w2 : wrap64 (((i + 1 : Nat) : Int) - 1 - 1) = (i : Int) - 1 := by rw [wrap64_id (by omega) (by omega)]; omega
    refine Evn.round ?_
    simp only [casketref03_Fix.l0, w1, w2]
    refine Evn.pos (by omega) (Evn.pos (by omega) (Evn.pos (by omega) ?_))
    rw [shr_at v i (by omega)]
    have := ih (out ++ [v / 2 ^ (8 * i) % 256]) (by simp; omega)
    rw [List.append_assoc, List.singleton_append] at this
    exact this
theorem rFix_ev (v : Int) (n : Nat) (hn : n ≤ 8) : Evn (fun k => casketref03_Fix.f k v (n : Int)) (fixB n v) := by
  unfold casketref03_Fix.f
  refine Evn.neg (by omega) (Evn.round ?_)
  simp only [casketref03_Fix.j0]
  refine Evn.neg (by simp; omega) ?_
  rw [wrap64_id (by omega) (by omega)]
  have := rFix_loop v n [] (by simpa using hn)
  rwa [List.nil_append] at this
theorem rFix_bad (v n : Int) (hn : n < 0 ∨ 8 < n) : Evn (fun k => casketref03_Fix.f k v n) [] := by
  unfold casketref03_Fix.f
  by_cases c : n < 0
  · refine Evn.pos c (Evn.round ?_)
    simp only [casketref03_Fix.j0]
    exact Evn.pos trivial (Evn.pure _)
  · refine Evn.neg c (Evn.round ?_)
    simp only [casketref03_Fix.j0]
    exact Evn.pos (by simp; omega) (Evn.pure _)
end Go.Proofs.Ytfnnlcmfahadhaa.Var

/- Readings of numbers in so many bytes: what the document's own readings come to; bytes as strings. -/
namespace Go.Proofs.Ytfnnlcmfahadhaa.Var
open Go.RowKit Go.Proofs.Ytfnnlcmfahadhaa.P Go.Proofs.Ytfnnlcmfahadhaa.Kit Go.Proofs.YtfnnlcmfahadhaaW.PrintWords Go.Proofs.YtfnnlcmfahadhaaW.PrintLast Go.Proofs.YtfnnlcmfahadhaaW.PrintMore
set_option linter.unusedVariables false
set_option linter.unusedSimpArgs false

theorem wrap_n (n : Nat) (h : n < 140737488355328) : wrap64 ((n : Int) + 1) = ((n + 1 : Nat) : Int) := by
  rw [wrap64_id (by omega) (by omega)]
  omega
theorem be_bd (l : List Int) (hb : Bytes l) : ∀ (v : Int) (k : Nat), 0 ≤ v → v < 256 ^ k → 0 ≤ be l v ∧ be l v < 256 ^ (k + l.length) := by
  induction l with
  | nil => intro v k h0 h1; exact ⟨h0, h1⟩
  | cons x l ih =>
    intro v k h0 h1
    have hx := hb x (by simp)
    have := ih hb.tail (v * 256 + x) (k + 1) (by omega) (by rw [Int.pow_succ]; omega)
    rw [List.length_cons, show k + (l.length + 1) = k + 1 + l.length by omega]
    exact this
theorem be8 (l : List Int) (hb : Bytes l) (hl : l.length ≤ 8) : 0 ≤ be l 0 ∧ be l 0 < 18446744073709551616 := by
  obtain ⟨a, b⟩ := be_bd l hb 0 0 (by omega) (by simp)
  rw [Nat.zero_add] at b
  have key : ∀ k : Fin 9, (256 : Int) ^ (k : Nat) ≤ 18446744073709551616 := by decide
  have := key ⟨l.length, by omega⟩
  exact ⟨a, Int.lt_of_lt_of_le b this⟩
/-! the document's readings -/
theorem rBytes_f (b : List Int) (n : Int) (hl : b.length < 140737488355328) : casketref03_Bytes.f b n = some (cBytes b n) := by
  unfold casketref03_Bytes.f cBytes
  by_cases c0 : n < 0
  · rw [if_pos c0, if_pos c0]
  · rw [if_neg c0, if_neg c0]
    by_cases c1 : (b.length : Int) < n
    · rw [if_pos c1, if_pos c1]
    · rw [if_neg c1, if_neg c1]
      simp only [Option.bind_some]
      rw [if_pos (by omega), if_pos (by omega), if_pos (by simp; omega), List.nil_append]
theorem rFixed_loop (b rest : List Int) (e : Int) (hb : Bytes b) (hl : b.length ≤ 8) (t : List Int) : ∀ (p : List Int) (v : Int), b = p ++ t → 0 ≤ v → v < 256 ^ p.length → Evn (fun k => casketref03_Fixed.l0 k b rest e v (p.length : Int)) (be t v, rest, e) := by
  induction t with
  | nil =>
    intro p v e1 _ _
    refine Evn.round ?_
    simp only [casketref03_Fixed.l0]
    exact Evn.neg (by rw [e1]; simp) (Evn.pure _)
  | cons x t ih =>
    intro p v e1 h0 h1
    have hx := hb x (by rw [e1]; simp)
    have hr : rd b (p.length : Int) = x := by
      rw [e1]
      exact rd_mid _ _ _ _ rfl
    have hpl : p.length + 1 + t.length = b.length := by rw [e1]; simp; omega
    have hp : (256 : Int) ^ p.length ≤ 72057594037927936 := by
      have key : ∀ k : Fin 8, (256 : Int) ^ (k : Nat) ≤ 72057594037927936 := by decide
      exact key ⟨p.length, by omega⟩
    have hs : (256 : Int) ^ (p.length + 1) = 256 ^ p.length * 256 := Int.pow_succ _ _
    have h2 := ih (p ++ [x]) (v * 256 + x) (by rw [e1]; simp) (by omega) (by rw [List.length_append, List.length_singleton, hs]; omega)
    rw [List.length_append, List.length_singleton] at h2
    have e0 := wrap_n p.length (by omega)
    have e3 : IntKind.u64.wrap (IntKind.u64.wrap (v * 256) + IntKind.u64.wrap x) = v * 256 + x := by rw [k64_id (v * 256) (by omega) (by omega), k64_id x (by omega) (by omega), k64_id _ (by omega) (by omega)]
    refine Evn.round ?_
    simp only [casketref03_Fixed.l0, e0, hr, e3]
    clear e0 e3
    exact Evn.pos (by omega) (Evn.pos (by omega) h2)
/-- What is read of n bytes. -/
def fixedP (n : Nat) (b : List Int) : Int × List Int × Int := if b.length < n then (0, b, 2) else (be (b.take n) 0, b.drop n, 0)
theorem rFixed_ev (n : Nat) (hn : n ≤ 8) (b : List Int) (hb : Bytes b) (hl : b.length < 140737488355328) : Evn (fun k => casketref03_Fixed.f k b (n : Int)) (fixedP n b) := by
  unfold casketref03_Fixed.f
  refine Evn.neg (by omega) (Evn.round ?_)
  simp only [casketref03_Fixed.j0]
  refine Evn.neg (by simp; omega) (Evn.bindc (rBytes_f b n hl) ?_)
  unfold cBytes fixedP
  rw [if_neg (by omega), Int.toNat_natCast]
  by_cases c : b.length < n
  · rw [if_pos c, if_pos (by omega)]
    exact rFixed_loop [] b 2 Bytes.nil (by simp) [] [] 0 rfl (by omega) (by simp)
  · rw [if_neg c, if_neg (by omega)]
    exact rFixed_loop (b.take n) (b.drop n) 0 (hb.take n) (by simp; omega) (b.take n) [] 0 rfl (by omega) (by simp)
theorem cFixed_eq (n : Nat) (hn : n ≤ 8) (b : List Int) : cFixed b (n : Int) = fixedP n b := by
  unfold cFixed cBytes fixedP
  rw [if_neg (by omega), if_neg (by omega), Int.toNat_natCast]
  by_cases c : b.length < n
  · rw [if_pos c, if_pos (by omega)]
    rfl
  · rw [if_neg c, if_neg (by omega)]
/-- The number that was written so. -/
theorem be_fixB (v : Int) (n : Nat) : ∀ a : Int, be (fixB n v) a = a * 256 ^ n + v % 256 ^ n := by
  induction n with
  | zero => intro a; simp [fixB, be]
  | succ n ih =>
    intro a
    rw [fixB]
    show be (fixB n v) (a * 256 + v / 2 ^ (8 * n) % 256) = _
    rw [ih]
    have hp : (0 : Int) < 256 ^ n := Int.pow_pos (by decide)
    have e1 : (2 : Int) ^ (8 * n) = 256 ^ n := by rw [Int.pow_mul]; rfl
    have e2 : v % 256 ^ (n + 1) = v / 256 ^ n % 256 * 256 ^ n + v % 256 ^ n := by
      rw [Int.pow_succ, Int.emod_def v (256 ^ n * 256), Int.emod_def (v / 256 ^ n) 256, Int.emod_def v (256 ^ n), ← Int.ediv_ediv_of_nonneg (by omega), Int.sub_mul, show 256 ^ n * 256 * (v / 256 ^ n / 256) = 256 * (v / 256 ^ n / 256) * 256 ^ n by ac_rfl, Int.mul_comm (v / 256 ^ n) (256 ^ n)]
      omega
    rw [e1, e2, Int.add_mul, Int.pow_succ, Int.mul_assoc, Int.mul_comm 256 (256 ^ n)]
    omega
theorem map_byte (a : List Int) : ∀ b : List Int, Bytes a → Bytes b → (a.map fun n => UInt8.ofNat n.toNat) = (b.map fun n => UInt8.ofNat n.toNat) → a = b := by
  induction a with
  | nil =>
    intro b _ _ h
    cases b with
    | nil => rfl
    | cons y b => simp at h
  | cons x a ih =>
    intro b ha hb h
    cases b with
    | nil => simp at h
    | cons y b =>
      rw [List.map_cons, List.map_cons] at h
      injection h with h1 h2
      have hx := ha x (by simp)
      have hy := hb y (by simp)
      have h3 := congrArg UInt8.toNat h1
      rw [UInt8.toNat_ofNat', UInt8.toNat_ofNat'] at h3
      rw [ih b ha.tail hb.tail h2, show x = y by omega]
theorem str_same (a b : List Int) (ha : Bytes a) (hb : Bytes b) : ((strOfNums a).toList == (strOfNums b).toList) = decide (a = b) := by
  rw [Lib.toList_data, Lib.toList_data, strOfNums_data, strOfNums_data]
  by_cases c : a = b
  · rw [c]
    simp
  · rw [decide_eq_false c]
    refine beq_eq_false_iff_ne.2 fun h => c (map_byte a b ha hb h)
end Go.Proofs.Ytfnnlcmfahadhaa.Var

/- Lists of numbers that are the same: what the document's Same of layer 5 comes to. -/
namespace Go.Proofs.Ytfnnlcmfahadhaa.Var
open Go.RowKit Go.Proofs.Ytfnnlcmfahadhaa.P Go.Proofs.Ytfnnlcmfahadhaa.Kit Go.Proofs.YtfnnlcmfahadhaaW.PrintWords Go.Proofs.YtfnnlcmfahadhaaW.PrintLast Go.Proofs.YtfnnlcmfahadhaaW.PrintMore
set_option linter.unusedVariables false
set_option linter.unusedSimpArgs false

theorem Same5_loop (a b : List Int) (hl : a.length = b.length) (hs : a.length < 140737488355328) (d i : Nat) (hi : i + d = a.length) (h : a.take i = b.take i) : Evn (fun k => casketref05_Same.l0 k a b (i : Int)) (decide (a = b)) := by
  induction d generalizing i with
  | zero =>
    refine Evn.succ (G := fun _ => some true) ?_ fun k => ?_
    · refine (Evn.pure true).eq ?_
      rw [List.take_of_length_le (by omega), List.take_of_length_le (by omega)] at h
      simp [h]
    · simp only [casketref05_Same.l0]
      rw [if_neg (by omega)]
  | succ d ih =>
    by_cases he : rd a (i : Int) = rd b (i : Int)
    · refine Evn.succ (ih (i + 1) (by omega) ?_) fun k => ?_
      · rw [List.take_add_one, List.take_add_one, h]
        have h1 : i < a.length := by omega
        have h2 : i < b.length := by omega
        simp only [rd_nat, List.getD_eq_getElem?_getD, List.getElem?_eq_getElem h1, List.getElem?_eq_getElem h2, Option.getD_some] at he
        rw [List.getElem?_eq_getElem h1, List.getElem?_eq_getElem h2, he]
      · simp only [casketref05_Same.l0]
        rw [if_pos (by omega), if_pos (by omega), if_pos (by omega), if_pos he, show wrap64 ((i : Int) + 1) = ((i + 1 : Nat) : Int) by unfold wrap64; omega]
    · refine Evn.succ (G := fun _ => some false) ?_ fun k => ?_
      · refine (Evn.pure false).eq ?_
        have : a ≠ b := fun e => he (by rw [e])
        simp [this]
      · simp only [casketref05_Same.l0]
        rw [if_pos (by omega), if_pos (by omega), if_pos (by omega), if_neg he]
theorem Same5_ev (a b : List Int) (hs : a.length < 140737488355328) : Evn (fun k => casketref05_Same.f k a b) (decide (a = b)) := by
  unfold casketref05_Same.f
  by_cases hl : a.length = b.length
  · refine Evn.pos (by omega) ?_
    exact Same5_loop a b hl hs a.length 0 (by omega) (by simp)
  · refine Evn.neg (by omega) ?_
    refine (Evn.pure false).eq ?_
    have : a ≠ b := fun e => hl (by rw [e])
    simp [this]
theorem Same5_self (a : List Int) (hs : a.length < 140737488355328) : Evn (fun k => casketref05_Same.f k a a) true := (Same5_ev a a hs).eq (by simp)

end Go.Proofs.Ytfnnlcmfahadhaa.Var

/- What the cursor reads of varints, plainly. -/
namespace Go.Proofs.Ytfnnlcmfahadhaa.Var
open Go.RowKit Go.Proofs.Ytfnnlcmfahadhaa.P Go.Proofs.Ytfnnlcmfahadhaa.Kit Go.Proofs.YtfnnlcmfahadhaaW.PrintWords Go.Proofs.YtfnnlcmfahadhaaW.PrintLast Go.Proofs.YtfnnlcmfahadhaaW.PrintMore
set_option linter.unusedVariables false
set_option linter.unusedSimpArgs false

theorem vread_vn' (v : Nat) (rest : List Int) (hv : v < 18446744073709551616) : vread (vn v ++ rest) 0 0 = ((v : Int), ((vn v).length : Int), 0) := by
  have hz : (v : Int) * 2 ^ (7 * 0) = (v : Int) := by rw [show 7 * 0 = 0 from rfl, Int.pow_zero, Int.mul_one]
  rw [vread_vn v 0 0 rest (by omega) (by rw [hz]; omega) (fun h => absurd h (by omega)), hz]
  simp
theorem vread_short' (v m : Nat) (hv : v < 18446744073709551616) (hm : m < (vn v).length) : vread ((vn v).take m) 0 0 = (0, 0, 2) := by
  have hz : (v : Int) * 2 ^ (7 * 0) = (v : Int) := by rw [show 7 * 0 = 0 from rfl, Int.pow_zero, Int.mul_one]
  exact vread_short v 0 0 m (by omega) (by rw [hz]; omega) hm
theorem cV_vn (v : Nat) (rest : List Int) (hv : v < 18446744073709551616) : cVarint (vn v ++ rest) = ((v : Int), rest, 0) := by
  unfold cVarint
  have hz : (v : Int) * 2 ^ (7 * 0) = (v : Int) := by rw [show 7 * 0 = 0 from rfl, Int.pow_zero, Int.mul_one]
  rw [vread_vn v 0 0 rest (by omega) (by rw [hz]; omega) (fun h => absurd h (by omega)), hz]
  simp
theorem cV_short (v : Nat) (m : Nat) (hv : v < 18446744073709551616) (hm : m < (vn v).length) : (cVarint ((vn v).take m)).2.2 = 2 := by
  unfold cVarint
  have hz : (v : Int) * 2 ^ (7 * 0) = (v : Int) := by rw [show 7 * 0 = 0 from rfl, Int.pow_zero, Int.mul_one]
  rw [vread_short v 0 0 m (by omega) (by rw [hz]; omega) hm]
theorem cV_only (b : List Int) (hb : Bytes b) (v : Int) (r : List Int) (h : cVarint b = (v, r, 0)) : ∃ u : Nat, v = (u : Int) ∧ u < 18446744073709551616 ∧ b = vn u ++ r := by
  unfold cVarint at h
  injection h with h1 h2
  injection h2 with h2 h3
  obtain ⟨u, e1, e2, e3, e4, e5, e6⟩ := vread_only b 0 0 _ _ hb (by omega) (Prod.ext_iff.mpr ⟨rfl, Prod.ext_iff.mpr ⟨rfl, h3⟩⟩)
  replace e1 : (vread b 0 0).1 = 0 + (u : Int) * 2 ^ (7 * 0) := e1
  replace e2 : (vread b 0 0).2.1 = ((0 + (vn u).length : Nat) : Int) := e2
  rw [show 7 * 0 = 0 from rfl, Int.pow_zero] at e1 e6
  rw [e2, Nat.zero_add, Int.toNat_natCast] at h2
  refine ⟨u, by omega, by omega, ?_⟩
  have := List.take_append_drop (vn u).length b
  rw [e4, h2] at this
  exact this.symm
end Go.Proofs.Ytfnnlcmfahadhaa.Var
