/- What the document's own answers of layer 1 come to: bits as a list of 0 and 1. -/
import Derived.Test.YtfpnoceppjjafaaDoorBitS
import Derived.Test.YtfpnoceppjjafaaDoorPx6
import Derived.Test.YtfpnoceppjjafaaDoorPx7
import Derived.Test.YtfpnoceppjjafaaDoorPx8
import Derived.Test.YtfpnoceppjjafaaDoorPx9
import Derived.Test.YtfpnoceppjjafaaDoorPx4
namespace Go.Proofs.YtfpnoceppjjafaaDoor.Var
open Go.RowKit Go.Proofs.YtfpnoceppjjafaaDoor.P Go.Proofs.YtfpnoceppjjafaaDoor.Kit Go.Proofs.YtfpnoceppjjafaaDoorW.PrintWords Go.Proofs.YtfpnoceppjjafaaDoorW.PrintLast Go.Proofs.YtfpnoceppjjafaaDoorW.PrintMore
set_option linter.unusedVariables false
set_option linter.unusedSimpArgs false

theorem bl_half {n : Nat} (h : n ≠ 0) (hn : n < 18446744073709551616) : Lib.bitLen n = Lib.bitLen (n / 2) + 1 := by
  rw [Lib.bitLen_half n h hn]
  omega
theorem bl_lt (n : Nat) : ∀ w, n < 18446744073709551616 → Lib.bitLen n ≤ w → n < 2 ^ w := by
  induction n using Nat.strongRecOn with
  | _ n ih =>
    intro w hn h
    rcases Nat.eq_zero_or_pos n with rfl | h0
    · exact Nat.two_pow_pos w
    · rw [bl_half (by omega) hn] at h
      obtain ⟨m, rfl⟩ : ∃ m, w = m + 1 := ⟨w - 1, by omega⟩
      have := ih (n / 2) (by omega) m (by omega) (by omega)
      rw [Nat.pow_succ]
      omega
theorem bl_le {n w : Nat} (hw : w ≤ 64) (h : n < 2 ^ w) : Lib.bitLen n ≤ w := Lib.bitLen_le n w hw h
theorem bl_zero : Lib.bitLen 0 = 0 := rfl
theorem bl_64 {v : Int} (h0 : 0 ≤ v) (h1 : v < 18446744073709551616) : Lib.bitLen v.toNat ≤ 64 := bl_le (Nat.le_refl _) (by omega)
theorem rWidth_loop (n : Nat) : ∀ acc : Nat, n < 18446744073709551616 → acc + Lib.bitLen n ≤ 64 → Evn (fun k => casketref01_Width.l0 k (n : Int) (acc : Int)) ((acc + Lib.bitLen n : Nat) : Int) := by
  induction n using Nat.strongRecOn with
  | _ n ih =>
    intro acc hn ha
    rcases Nat.eq_zero_or_pos n with rfl | h0
    · refine Evn.round ?_
      simp only [casketref01_Width.l0]
      refine Evn.neg (by omega) (Evn.pure _)
    · have e := bl_half (n := n) (by omega) hn
      have ed : IntKind.u64.wrap (Int.tdiv (n : Int) 2) = ((n / 2 : Nat) : Int) := by
        rw [k_tdiv _ _ (by omega), k64_id _ (by omega) (by omega)]
        omega
      refine Evn.round ?_
      simp only [casketref01_Width.l0]
      refine Evn.pos (by omega) ?_
      rw [ed, show wrap64 ((acc : Int) + 1) = ((acc + 1 : Nat) : Int) by rw [wrap64_id (by omega) (by omega)]; omega, show acc + Lib.bitLen n = acc + 1 + Lib.bitLen (n / 2) by omega]
      exact ih (n / 2) (by omega) (acc + 1) (by omega) (by omega)
theorem rWidth_ev (v : Int) (h0 : 0 ≤ v) (h1 : v < 18446744073709551616) : Evn (fun k => casketref01_Width.f k v) (Lib.bitLen v.toNat : Int) := by
  have := rWidth_loop v.toNat 0 (by omega) (by have := bl_64 h0 h1; omega)
  rw [show ((v.toNat : Nat) : Int) = v by omega, Nat.zero_add] at this
  exact this
theorem bit_at (v : Int) (i : Nat) (h0 : 0 ≤ v) (h1 : v < 18446744073709551616) (hi : i ≤ 64) : wrap64 (Go.bits .and .u64 (shr .u64 v (i : Int)) 1) = v / 2 ^ i % 2 := by
  have e : shr .u64 v (i : Int) = v / 2 ^ i := by
    show v / 2 ^ min ((i : Int)).toNat 64 = _
    rw [Int.toNat_natCast, Nat.min_eq_left hi]
  have hp : (0 : Int) < 2 ^ i := Int.pow_pos (by decide)
  have h2 : 0 ≤ v / 2 ^ i := Int.ediv_nonneg h0 (by omega)
  have h3 : v / 2 ^ i ≤ v := Int.ediv_le_self _ h0
  rw [e, k64_and1 _ h2 (by omega)]
  exact wrap64_id (by omega) (by omega)
theorem rPut_loop (v : Int) (h0 : 0 ≤ v) (h1 : v < 18446744073709551616) (d : Nat) : ∀ out : List Int, d ≤ 64 → out.length + d < 17592186044416 → Evn (fun k => casketref01_Put.l0 k v out ((d : Int) - 1)) (out ++ bitsOf d v, 0) := by
  induction d with
  | zero =>
    intro out _ _
    refine Evn.round ?_
    simp only [casketref01_Put.l0]
    refine Evn.neg (by omega) ?_
    rw [bitsOf, List.append_nil]
    exact Evn.pure _
  | succ d ih =>
    intro out hd hl
    have e1 : IntKind.u64.wrap (((d + 1 : Nat) : Int) - 1) = (d : Int) := by
      rw [k64_id _ (by omega) (by omega)]
      omega
    have e2 : wrap64 (((d + 1 : Nat) : Int) - 1 - 1) = (d : Int) - 1 := by rw [wrap64_id (by omega) (by omega)]; omega
    refine Evn.round ?_
    simp only [casketref01_Put.l0, e1, e2]
    refine Evn.pos (by omega) (Evn.pos (by omega) (Evn.pos (by omega) ?_))
    rw [bit_at v d h0 h1 (by omega), bitsOf]
    have := ih (out ++ [v / 2 ^ d % 2]) (by omega) (by simp; omega)
    rw [List.append_assoc, List.singleton_append] at this
    exact this
/-- Put: wrong widths and numbers that are too wide are refused. -/
def rPut (l : List Int) (v w : Int) : List Int × Int := if w < 0 ∨ 64 < w ∨ w < (Lib.bitLen v.toNat : Int) then (l, 1) else (l ++ bitsOf w.toNat v, 0)
theorem rPut_ev (l : List Int) (v w : Int) (h0 : 0 ≤ v) (h1 : v < 18446744073709551616) (hl : l.length + 64 < 17592186044416) : Evn (fun k => casketref01_Put.f k l v w) (rPut l v w) := by
  have bad : (w < 0 ∨ 64 < w ∨ w < (Lib.bitLen v.toNat : Int)) → Evn (fun k => casketref01_Put.j0 k l v w true) (rPut l v w) := by
    intro hb
    refine Evn.round ?_
    simp only [casketref01_Put.j0]
    refine Evn.pos trivial ?_
    unfold rPut
    rw [if_pos hb]
    exact Evn.pure _
  unfold casketref01_Put.f
  by_cases c0 : w < 0
  · exact Evn.pos c0 (bad (.inl c0))
  · refine Evn.neg c0 ?_
    by_cases c1 : w > 64
    · exact Evn.pos c1 (bad (.inr (.inl c1)))
    · refine Evn.neg c1 (Evn.bind (rWidth_ev v h0 h1) ?_)
      by_cases c2 : (Lib.bitLen v.toNat : Int) > w
      · rw [decide_eq_true c2]
        exact bad (.inr (.inr c2))
      · rw [decide_eq_false c2]
        refine Evn.round ?_
        simp only [casketref01_Put.j0]
        refine Evn.neg (by simp) (Evn.bindc rfl (Evn.pos (by simp; omega) ?_))
        obtain ⟨d, rfl⟩ := Int.eq_ofNat_of_zero_le (show 0 ≤ w by omega)
        unfold rPut
        rw [if_neg (by omega), List.nil_append, Int.toNat_natCast, wrap64_id (by omega) (by omega)]
        exact rPut_loop v h0 h1 d l (by omega) (by omega)
theorem Same1_loop (a b : List Int) (hl : a.length = b.length) (hs : a.length < 140737488355328) (d i : Nat) (hi : i + d = a.length) (h : a.take i = b.take i) : Evn (fun k => casketref01_Same.l0 k a b (i : Int)) (decide (a = b)) := by
  induction d generalizing i with
  | zero =>
    refine Evn.succ (G := fun _ => some true) ?_ fun k => ?_
    · refine (Evn.pure true).eq ?_
      rw [List.take_of_length_le (by omega), List.take_of_length_le (by omega)] at h
      simp [h]
    · simp only [casketref01_Same.l0]
      rw [if_neg (by omega)]
  | succ d ih =>
    by_cases he : rd a (i : Int) = rd b (i : Int)
    · refine Evn.succ (ih (i + 1) (by omega) ?_) fun k => ?_
      · rw [List.take_add_one, List.take_add_one, h]
        have h1 : i < a.length := by omega
        have h2 : i < b.length := by omega
        simp only [rd_nat, List.getD_eq_getElem?_getD, List.getElem?_eq_getElem h1, List.getElem?_eq_getElem h2, Option.getD_some] at he
        rw [List.getElem?_eq_getElem h1, List.getElem?_eq_getElem h2, he]
      · simp only [casketref01_Same.l0]
        rw [if_pos (by omega), if_pos (by omega), if_pos (by omega), if_pos he, show wrap64 ((i : Int) + 1) = ((i + 1 : Nat) : Int) by unfold wrap64; omega]
    · refine Evn.succ (G := fun _ => some false) ?_ fun k => ?_
      · refine (Evn.pure false).eq ?_
        have : a ≠ b := fun e => he (by rw [e])
        simp [this]
      · simp only [casketref01_Same.l0]
        rw [if_pos (by omega), if_pos (by omega), if_pos (by omega), if_neg he]
theorem Same1_ev (a b : List Int) (hs : a.length < 140737488355328) : Evn (fun k => casketref01_Same.f k a b) (decide (a = b)) := by
  unfold casketref01_Same.f
  by_cases hl : a.length = b.length
  · refine Evn.pos (by omega) ?_
    exact Same1_loop a b hl hs a.length 0 (by omega) (by simp)
  · refine Evn.neg (by omega) ?_
    refine (Evn.pure false).eq ?_
    have : a ≠ b := fun e => hl (by rw [e])
    simp [this]
theorem Same1_self (a : List Int) (hs : a.length < 140737488355328) : Evn (fun k => casketref01_Same.f k a a) true := (Same1_ev a a hs).eq (by simp)
/-! Of, Get, End -/
theorem bit8_at (x : Int) (j : Nat) (h0 : 0 ≤ x) (h1 : x < 256) (hj : j ≤ 8) : wrap64 (Go.bits .and .u8 (shr .u8 x (j : Int)) 1) = x / 2 ^ j % 2 := by
  have e : shr .u8 x (j : Int) = x / 2 ^ j := by
    show x / 2 ^ min ((j : Int)).toNat 8 = _
    rw [Int.toNat_natCast, Nat.min_eq_left hj]
  have hp : (0 : Int) < 2 ^ j := Int.pow_pos (by decide)
  have h2 : 0 ≤ x / 2 ^ j := Int.ediv_nonneg h0 (by omega)
  have h3 : x / 2 ^ j ≤ x := Int.ediv_le_self _ h0
  rw [e, bit_val _ h2 (by omega)]
  exact wrap64_id (by omega) (by omega)
theorem rOf_byte (b : List Int) (i : Nat) (hi : i < b.length) (hx : 0 ≤ rd b (i : Int) ∧ rd b (i : Int) < 256) (r : List Int) (d : Nat) : ∀ out : List Int, d ≤ 8 → out.length + d < 17592186044416 →
    Evn (fun k => casketref01_Of.l0 k b (out ++ bitsOf d (rd b (i : Int))) (wrap64 ((i : Int) + 1))) r → Evn (fun k => casketref01_Of.l1 k b out (i : Int) ((d : Int) - 1)) r := by
  induction d with
  | zero =>
    intro out _ _ h
    rw [bitsOf, List.append_nil] at h
    refine Evn.round ?_
    simp only [casketref01_Of.l1]
    exact Evn.neg (by omega) h
  | succ d ih =>
    intro out hd hl h
    have e1 : IntKind.u64.wrap (((d + 1 : Nat) : Int) - 1) = (d : Int) := by
      rw [k64_id _ (by omega) (by omega)]
      omega
    have e2 : wrap64 (((d + 1 : Nat) : Int) - 1 - 1) = (d : Int) - 1 := by rw [wrap64_id (by omega) (by omega)]; omega
    refine Evn.round ?_
    simp only [casketref01_Of.l1, e1, e2]
    refine Evn.pos (by omega) (Evn.pos (by omega) (Evn.pos (by omega) (Evn.pos (by omega) (Evn.pos (by omega) ?_))))
    rw [bit8_at _ d hx.1 hx.2 (by omega)]
    refine ih _ (by omega) (by simp; omega) ?_
    rw [List.append_assoc, List.singleton_append]
    rw [bitsOf] at h
    exact h
theorem rOf_loop (t : List Int) : ∀ (p : List Int), isBy (p ++ t) → 8 * (p ++ t).length < 17592186044416 → Evn (fun k => casketref01_Of.l0 k (p ++ t) (unpack p) (p.length : Int)) (unpack (p ++ t)) := by
  induction t with
  | nil =>
    intro p _ _
    refine Evn.round ?_
    simp only [casketref01_Of.l0]
    refine Evn.neg (by simp) ?_
    rw [List.append_nil]
    exact Evn.pure _
  | cons x t ih =>
    intro p hb hl
    have hr : rd (p ++ x :: t) (p.length : Int) = x := rd_mid _ _ _ _ rfl
    have hx := hb x (by simp)
    refine Evn.round ?_
    simp only [casketref01_Of.l0]
    refine Evn.pos (by simp; omega) ?_
    refine rOf_byte (p ++ x :: t) p.length (by simp) (by rw [hr]; exact hx) _ 8 (unpack p) (by omega) (by simp at hl; rw [unpack_length]; omega) ?_
    rw [hr]
    have h2 := ih (p ++ [x]) (by rw [List.append_assoc]; exact hb) (by rw [List.append_assoc]; exact hl)
    rw [List.append_assoc, List.singleton_append, unpack_append, List.length_append, List.length_singleton, unpack_cons, show unpack [] = [] from rfl, List.append_nil] at h2
    rw [show wrap64 ((p.length : Int) + 1) = ((p.length + 1 : Nat) : Int) by
      simp at hl
      rw [wrap64_id (by omega) (by omega)]
      omega]
    exact h2
theorem rOf_ev (b : List Int) (hb : isBy b) (hl : 8 * b.length < 17592186044416) : Evn (fun k => casketref01_Of.f k b) (unpack b) := by
  unfold casketref01_Of.f
  exact rOf_loop b [] hb hl
theorem rGet_step (x y : Int) (w : Nat) (hw : w < 64) (hx0 : 0 ≤ x) (hx : x < 2 ^ w) (hy : y = 0 ∨ y = 1) : IntKind.u64.wrap ((IntKind.u64.wrap (x * 2)) + (IntKind.u64.wrap y)) = x * 2 + y ∧ 0 ≤ x * 2 + y ∧ x * 2 + y < 2 ^ (w + 1) := by
  have h3 : (2 : Int) ^ w ≤ 2 ^ 63 := by exact_mod_cast Nat.pow_le_pow_right (by decide) (show w ≤ 63 by omega)
  rw [k64_id (x * 2) (by omega) (by omega), k64_id y (by omega) (by omega), k64_id (x * 2 + y) (by omega) (by omega), Int.pow_succ]
  omega
theorem rGet_loop (l : List Int) (h01 : is01 l) (w : Nat) (hw : w ≤ 64) (hl : w ≤ l.length) (d : Nat) : ∀ i x, i + d = w → 0 ≤ x → x < 2 ^ i → Evn (fun k => casketref01_Get.l0 k l (w : Int) x (i : Int)) (valL x ((l.drop i).take d), l.drop w, 0) := by
  induction d with
  | zero =>
    intro i x hi _ _
    refine Evn.round ?_
    simp only [casketref01_Get.l0]
    refine Evn.neg (by omega) (Evn.pos (by omega) (Evn.pos (by omega) ?_))
    rw [List.take_zero]
    exact Evn.pure _
  | succ d ih =>
    intro i x hi hx0 hx
    obtain ⟨e1, e2, e3⟩ := rGet_step x (bg l i) i (by omega) hx0 hx (bg01 h01 i)
    have h2 := ih (i + 1) (x * 2 + bg l i) (by omega) e2 e3
    rw [drop_bg (l := l) (n := i) (by omega), List.take_succ_cons, valL_cons]
    refine Evn.round ?_
    simp only [casketref01_Get.l0]
    refine Evn.pos (by omega) (Evn.pos (by omega) (Evn.pos (by omega) ?_))
    rw [bg_rd, e1, show wrap64 ((i : Int) + 1) = ((i + 1 : Nat) : Int) by rw [wrap64_id (by omega) (by omega)]; omega]
    exact h2
/-- Get: a number of the first bits, those behind, and why not. -/
def rGet2 (l : List Int) (w : Int) : Int × List Int × Int := if w < 0 ∨ 64 < w then (0, l, 1) else if l.length < w.toNat then (0, l, 2) else (valL 0 (l.take w.toNat), l.drop w.toNat, 0)
theorem rGet_ev (l : List Int) (w : Int) (h01 : is01 l) : Evn (fun k => casketref01_Get.f k l w) (rGet2 l w) := by
  unfold casketref01_Get.f rGet2
  by_cases c0 : w < 0
  · refine Evn.pos c0 (Evn.round ?_)
    simp only [casketref01_Get.j0]
    rw [if_pos (.inl c0)]
    exact Evn.pos trivial (Evn.pure _)
  · refine Evn.neg c0 (Evn.round ?_)
    simp only [casketref01_Get.j0]
    by_cases c1 : w > 64
    · rw [if_pos (.inr c1)]
      exact Evn.pos (by simp; omega) (Evn.pure _)
    · rw [if_neg (by omega)]
      refine Evn.neg (by simp; omega) ?_
      obtain ⟨d, rfl⟩ := Int.eq_ofNat_of_zero_le (show 0 ≤ w by omega)
      rw [Int.toNat_natCast]
      by_cases c2 : l.length < d
      · rw [if_pos c2]
        exact Evn.pos (by omega) (Evn.pure _)
      · rw [if_neg c2]
        refine Evn.neg (by omega) ?_
        have := rGet_loop l h01 d (by omega) (by omega) d 0 0 (by omega) (by omega) (by omega)
        rw [List.drop_zero] at this
        exact this
/-! Bytes -/
theorem pack_behind (a c : List Int) (q : Nat) (ha : a.length = 8 * q) (h0 : 0 < c.length) (h8 : c.length ≤ 8) : pack (a ++ c) = pack a ++ [valL 0 (c ++ List.replicate (8 - c.length) 0)] := by
  have hla : (pack a).length = q := by rw [pack_length]; omega
  refine ext_bg (by rw [pack_length, List.length_append, List.length_append, hla, List.length_singleton]; omega) fun i hi => ?_
  rw [pack_length, List.length_append] at hi
  rw [pack_bg]
  by_cases hq : i < q
  · rw [bg_left (by omega), pack_bg]
    unfold byteAt
    rw [bg_left (by omega), bg_left (by omega), bg_left (by omega), bg_left (by omega), bg_left (by omega), bg_left (by omega), bg_left (by omega), bg_left (by omega)]
  · have e : i = q := by omega
    subst e
    rw [bg_right (by omega), hla, Nat.sub_self]
    unfold byteAt
    rw [bg_right (by omega), bg_right (by omega), bg_right (by omega), bg_right (by omega), bg_right (by omega), bg_right (by omega), bg_right (by omega), bg_right (by omega)]
    rw [show 8 * i - a.length = 0 by omega, show 8 * i + 1 - a.length = 1 by omega, show 8 * i + 2 - a.length = 2 by omega, show 8 * i + 3 - a.length = 3 by omega, show 8 * i + 4 - a.length = 4 by omega, show 8 * i + 5 - a.length = 5 by omega, show 8 * i + 6 - a.length = 6 by omega, show 8 * i + 7 - a.length = 7 by omega]
    clear ha hla hi hq
    match c, h0, h8 with
    | [x1], _, _ => simp [bg, valL, List.replicate]; omega
    | [x1, x2], _, _ => simp [bg, valL, List.replicate]; omega
    | [x1, x2, x3], _, _ => simp [bg, valL, List.replicate]; omega
    | [x1, x2, x3, x4], _, _ => simp [bg, valL, List.replicate]; omega
    | [x1, x2, x3, x4, x5], _, _ => simp [bg, valL, List.replicate]; omega
    | [x1, x2, x3, x4, x5, x6], _, _ => simp [bg, valL, List.replicate]; omega
    | [x1, x2, x3, x4, x5, x6, x7], _, _ => simp [bg, valL, List.replicate]; omega
    | [x1, x2, x3, x4, x5, x6, x7, x8], _, _ => simp [bg, valL]; omega
theorem tmod_nat8 (n : Nat) : Int.tmod (n : Int) 8 = ((n % 8 : Nat) : Int) := by
  rw [k_tmod _ _ (by omega)]
  omega
theorem tdiv_nat8 (n : Nat) (h : n < 140737488355328) : wrap64 (Int.tdiv (n : Int) 8) = ((n / 8 : Nat) : Int) := by
  rw [k_tdiv _ _ (by omega), wrap64_id (by omega) (by omega)]
  omega
theorem val_small {c : List Int} (h : is01 c) (hl : c.length ≤ 7) : 0 ≤ valL 0 c ∧ valL 0 c < 128 := by
  obtain ⟨b0, b1⟩ := valL_bd h
  have hp : (2 : Int) ^ c.length ≤ 2 ^ 7 := by exact_mod_cast Nat.pow_le_pow_right (by decide) hl
  have e : (2 : Int) ^ 7 = 128 := by decide
  rw [e] at hp
  exact ⟨b0, Int.lt_of_lt_of_le b1 hp⟩
theorem rBytes_pad (a c : List Int) (q : Nat) (ha : a.length = 8 * q) (hq : q < 140737488355328) (h01 : is01 c) (h0 : 0 < c.length) (h8 : c.length ≤ 8) (d : Nat) : ∀ j, c.length + j + d = 8 → Evn (fun k => casketref01_Bytes.l1 k (pack a ++ [valL 0 (c ++ List.replicate j 0)]) ((8 * q + c.length + j : Nat) : Int)) (pack (a ++ c)) := by
  have hla : (pack a).length = q := by rw [pack_length]; omega
  induction d with
  | zero =>
    intro j hj
    refine Evn.round ?_
    simp only [casketref01_Bytes.l1, tmod_nat8]
    refine Evn.pos (by omega) ?_
    rw [pack_behind a c q ha h0 h8, show 8 - c.length = j by omega]
    exact Evn.pure _
  | succ d ih =>
    intro j hj
    have h2 := ih (j + 1) (by omega)
    have hv : is01 (c ++ List.replicate j 0) := is01_append h01 fun x hx => .inl (List.eq_of_mem_replicate hx)
    obtain ⟨b0, b1⟩ := val_small hv (by simp; omega)
    have e1 : wrap64 (((pack a ++ [valL 0 (c ++ List.replicate j 0)]).length : Int) - 1) = (q : Int) := by
      rw [List.length_append, hla, List.length_singleton, wrap64_id (by omega) (by omega)]
      omega
    have e2 : wrap64 (((8 * q + c.length + j : Nat) : Int) + 1) = ((8 * q + c.length + (j + 1) : Nat) : Int) := by
      rw [wrap64_id (by omega) (by omega)]
      omega
    refine Evn.round ?_
    simp only [casketref01_Bytes.l1, tmod_nat8, e1, e2]
    clear e1 e2
    refine Evn.neg (by omega) (Evn.pos (by omega) (Evn.pos (by rw [List.length_append, hla, List.length_singleton]; omega) ?_))
    rw [rd_mid _ _ _ _ (by rw [hla]), Int.toNat_natCast, set_mid _ _ _ _ _ hla.symm]
    rw [List.replicate_succ', ← List.append_assoc, valL_append] at h2
    rw [show valL 0 (c ++ List.replicate j 0) * 2 % 256 = valL (valL 0 (c ++ List.replicate j 0)) [0] by
      show _ = valL 0 (c ++ List.replicate j 0) * 2 + 0
      omega]
    exact h2
def part (c : List Int) : List Int := if c = [] then [] else [valL 0 c]
theorem part_cons (c : List Int) (h : 0 < c.length) : part c = [valL 0 c] := by
  unfold part
  rw [if_neg]
  rintro rfl
  simp at h
/-- One bit more: the state behind it. -/
theorem part_step (a c : List Int) (x : Int) (q : Nat) (ha : a.length = 8 * q) (hc : c.length < 8) : ∃ a' c' q', a' ++ c' = a ++ c ++ [x] ∧ a'.length = 8 * q' ∧ c'.length < 8 ∧ 8 * q' + c'.length = 8 * q + c.length + 1 ∧ pack a' ++ part c' = pack a ++ [valL 0 c * 2 + x] := by
  have ev : valL 0 c * 2 + x = valL 0 (c ++ [x]) := by rw [valL_append]; rfl
  have hlen : (c ++ [x]).length = c.length + 1 := by rw [List.length_append, List.length_singleton]
  by_cases h7 : c.length + 1 < 8
  · refine ⟨a, c ++ [x], q, by rw [List.append_assoc], ha, by omega, by omega, ?_⟩
    rw [part_cons _ (by omega), ev]
  · have l1 : (a ++ (c ++ [x])).length = 8 * (q + 1) := by
      rw [List.length_append, ha, hlen]
      omega
    refine ⟨a ++ (c ++ [x]), [], q + 1, by rw [List.append_nil, List.append_assoc], l1, by decide, by simp only [List.length_nil]; omega, ?_⟩
    rw [show part [] = [] from rfl, List.append_nil, pack_behind a (c ++ [x]) q ha (by omega) (by omega), hlen, show 8 - (c.length + 1) = 0 by omega, List.replicate_zero, List.append_nil, ev]
theorem rBytes_loop (L : List Int) (h01 : is01 L) (hl : L.length < 140737488355328) (t : List Int) : ∀ (a c : List Int) (q : Nat), L = a ++ c ++ t → a.length = 8 * q → c.length < 8 →
    Evn (fun k => casketref01_Bytes.l0 k L (pack a ++ part c) ((8 * q + c.length : Nat) : Int)) (pack L) := by
  have hlL : L.length < 140737488355328 := hl
  induction t with
  | nil =>
    intro a c q e ha hc
    rw [List.append_nil] at e
    have hLl : L.length = 8 * q + c.length := by rw [e, List.length_append, ha]
    refine Evn.round ?_
    simp only [casketref01_Bytes.l0]
    refine Evn.neg (by omega) ?_
    rw [hLl]
    rcases Nat.eq_zero_or_pos c.length with h0 | h0
    · have hc0 : c = [] := List.eq_nil_of_length_eq_zero h0
      subst hc0
      refine Evn.round ?_
      simp only [casketref01_Bytes.l1, tmod_nat8]
      refine Evn.pos (by simp) ?_
      rw [show part [] = [] from rfl, List.append_nil, e, List.append_nil]
      exact Evn.pure _
    · have := rBytes_pad a c q ha (by omega) (fun x hx => h01 x (by rw [e]; exact List.mem_append_right _ hx)) h0 (by omega) (8 - c.length) 0 (by omega)
      rw [List.replicate_zero, List.append_nil, Nat.add_zero] at this
      rw [part_cons c h0, e]
      exact this
  | cons x t ih =>
    intro a c q e ha hc
    have hla : (pack a).length = q := by rw [pack_length]; omega
    have hx := h01 x (by rw [e]; simp)
    have hcb : is01 c := fun y hy => h01 y (by rw [e]; simp [hy])
    obtain ⟨b0, b1⟩ := val_small hcb (by omega)
    have hr : rd L ((8 * q + c.length : Nat) : Int) = x := by
      rw [e]
      exact rd_mid _ _ _ _ (by rw [List.length_append, ha])
    have hlen : L.length = 8 * q + c.length + (t.length + 1) := by
      rw [e, List.length_append, List.length_append, ha, List.length_cons]
    have e0 := tdiv_nat8 (8 * q + c.length) (by omega)
    rw [show (8 * q + c.length) / 8 = q by omega] at e0
    have e2 : wrap64 (((8 * q + c.length : Nat) : Int) + 1) = ((8 * q + c.length + 1 : Nat) : Int) := by
      rw [wrap64_id (by omega) (by omega)]
      omega
    obtain ⟨a', c', q', f1, f2, f3, f4, f5⟩ := part_step a c x q ha hc
    have key := ih a' c' q' (by rw [f1, e]; simp) f2 f3
    rw [f4, f5] at key
    clear ih f1 f2 f3 f4 f5
    refine Evn.round ?_
    simp only [casketref01_Bytes.l0, e0, e2, hr, tmod_nat8]
    clear e0 e2 hr
    refine Evn.pos (by omega) ?_
    rcases Nat.eq_zero_or_pos c.length with h0 | h0
    · have hc0 : c = [] := List.eq_nil_of_length_eq_zero h0
      have hp : part c = [] := by rw [hc0]; rfl
      have hv : valL 0 c = 0 := by rw [hc0]; rfl
      rw [hp, List.append_nil]
      rw [hv] at key
      refine Evn.pos (by omega) (Evn.pos (by omega) (Evn.bindc rfl (Evn.pos (by omega) (Evn.pos (by rw [List.length_append, hla, List.length_singleton]; omega) (Evn.pos (by omega) ?_)))))
      rw [rd_mid _ _ _ _ (by rw [hla]), Int.toNat_natCast, set_mid _ _ _ _ _ hla.symm, show (0 * 2 % 256 + x % 256) % 256 = 0 * 2 + x by omega]
      exact key
    · rw [part_cons c h0]
      refine Evn.neg (by omega) (Evn.pos (by omega) (Evn.pos (by rw [List.length_append, hla, List.length_singleton]; omega) (Evn.pos (by omega) ?_)))
      rw [rd_mid _ _ _ _ (by rw [hla]), Int.toNat_natCast, set_mid _ _ _ _ _ hla.symm, show (valL 0 c * 2 % 256 + x % 256) % 256 = valL 0 c * 2 + x by omega]
      exact key
theorem rBytes_ev (l : List Int) (h01 : is01 l) (hl : l.length < 140737488355328) : Evn (fun k => casketref01_Bytes.f k l) (pack l) := by
  unfold casketref01_Bytes.f
  have := rBytes_loop l h01 hl l [] [] 0 (by simp) rfl (by simp)
  simpa [part, pack] using this
end Go.Proofs.YtfpnoceppjjafaaDoor.Var
