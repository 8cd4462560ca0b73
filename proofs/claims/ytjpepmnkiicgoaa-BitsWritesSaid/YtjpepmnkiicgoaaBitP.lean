/- Bits as lists of 0 and 1: what the bytes of the bit writer and the bit reader are. -/
import Derived.Test.YtjpepmnkiicgoaaBitsR
namespace Go.Proofs.Ytjpepmnkiicgoaa.P
open Go.RowKit Go.Proofs.Ytjpepmnkiicgoaa.Kit Go.Proofs.YtjpepmnkiicgoaaW.PrintWords Go.Proofs.YtjpepmnkiicgoaaW.PrintLast Go.Proofs.YtjpepmnkiicgoaaW.PrintMore
set_option linter.unusedVariables false
set_option linter.unusedSimpArgs false

/-- The w lowest bits of v, the highest first. -/
def bitsOf : Nat → Int → List Int
  | 0, _ => []
  | w + 1, v => v / 2 ^ w % 2 :: bitsOf w v
def is01 (k : List Int) : Prop := ∀ x ∈ k, x = 0 ∨ x = 1
def isBy (b : List Int) : Prop := ∀ x ∈ b, 0 ≤ x ∧ x < 256
def bg (k : List Int) (i : Nat) : Int := k.getD i 0
def byteAt (k : List Int) (i : Nat) : Int := bg k (8 * i) * 128 + bg k (8 * i + 1) * 64 + bg k (8 * i + 2) * 32 + bg k (8 * i + 3) * 16 + bg k (8 * i + 4) * 8 + bg k (8 * i + 5) * 4 + bg k (8 * i + 6) * 2 + bg k (8 * i + 7)
/-- Bits as bytes; the last byte is filled up with 0. -/
def pack (k : List Int) : List Int := (List.range ((k.length + 7) / 8)).map (byteAt k)
/-- The bits of bytes. -/
def unpack (b : List Int) : List Int := b.flatMap (bitsOf 8)
/-- Bits as a number, behind a. -/
def valL (a : Int) (l : List Int) : Int := l.foldl (fun a x => a * 2 + x) a
/-- Is nothing left but what fills a byte? -/
def endL (l : List Int) : Int := if 8 ≤ l.length then 3 else if ∀ x ∈ l, x = 0 then 0 else 3

theorem bitsOf_length (w : Nat) (v : Int) : (bitsOf w v).length = w := by
  induction w with
  | zero => rfl
  | succ w ih => simp [bitsOf, ih]
theorem bitsOf_01 (w : Nat) (v : Int) : is01 (bitsOf w v) := by
  induction w with
  | zero => intro x hx; simp [bitsOf] at hx
  | succ w ih =>
    intro x hx
    simp only [bitsOf, List.mem_cons] at hx
    rcases hx with rfl | hx
    · omega
    · exact ih x hx
theorem is01_nil : is01 [] := fun x hx => by simp at hx
theorem is01_append {a b : List Int} (ha : is01 a) (hb : is01 b) : is01 (a ++ b) := fun x hx => by
  rcases List.mem_append.1 hx with h | h
  · exact ha x h
  · exact hb x h
theorem is01_drop {a : List Int} (ha : is01 a) (n : Nat) : is01 (a.drop n) := fun x hx => ha x (List.mem_of_mem_drop hx)
theorem is01_take {a : List Int} (ha : is01 a) (n : Nat) : is01 (a.take n) := fun x hx => ha x (List.mem_of_mem_take hx)
theorem bg_out {k : List Int} {i : Nat} (h : k.length ≤ i) : bg k i = 0 := by
  unfold bg
  rw [List.getD_eq_getElem?_getD, List.getElem?_eq_none h]
  rfl
theorem bg01 {k : List Int} (h : is01 k) (i : Nat) : bg k i = 0 ∨ bg k i = 1 := by
  by_cases hi : i < k.length
  · have : bg k i ∈ k := by
      unfold bg
      rw [List.getD_eq_getElem?_getD, List.getElem?_eq_getElem hi]
      exact List.getElem_mem hi
    exact h _ this
  · exact .inl (bg_out (by omega))
theorem bgb {k : List Int} (h : is01 k) (i : Nat) : 0 ≤ bg k i ∧ bg k i ≤ 1 := by
  rcases bg01 h i with e | e <;> omega
theorem bg_left {a b : List Int} {i : Nat} (h : i < a.length) : bg (a ++ b) i = bg a i := by
  unfold bg
  rw [List.getD_eq_getElem?_getD, List.getD_eq_getElem?_getD, List.getElem?_append_left h]
theorem bg_right {a b : List Int} {i : Nat} (h : a.length ≤ i) : bg (a ++ b) i = bg b (i - a.length) := by
  unfold bg
  rw [List.getD_eq_getElem?_getD, List.getD_eq_getElem?_getD, List.getElem?_append_right h]
theorem bg_snoc (k : List Int) (x : Int) (j : Nat) : bg (k ++ [x]) j = if j = k.length then x else bg k j := by
  by_cases h : j < k.length
  · rw [bg_left h, if_neg (by omega)]
  · rw [bg_right (by omega)]
    by_cases h2 : j = k.length
    · subst h2
      simp [bg]
    · rw [if_neg h2, bg_out (k := k) (by omega), bg_out (by simp; omega)]
theorem bg_rd (k : List Int) (i : Nat) : rd k (i : Int) = bg k i := by simp [rd, bg]
theorem byteAt_bd {k : List Int} (h : is01 k) (i : Nat) : 0 ≤ byteAt k i ∧ byteAt k i < 256 := by
  have h0 := bgb h (8 * i)
  have h1 := bgb h (8 * i + 1)
  have h2 := bgb h (8 * i + 2)
  have h3 := bgb h (8 * i + 3)
  have h4 := bgb h (8 * i + 4)
  have h5 := bgb h (8 * i + 5)
  have h6 := bgb h (8 * i + 6)
  have h7 := bgb h (8 * i + 7)
  unfold byteAt
  omega
theorem pack_length (k : List Int) : (pack k).length = (k.length + 7) / 8 := by simp [pack]
theorem pack_bg (k : List Int) (i : Nat) : bg (pack k) i = byteAt k i := by
  by_cases h : i < (k.length + 7) / 8
  · simp [bg, pack, List.getD_eq_getElem?_getD, h]
  · rw [bg_out (by rw [pack_length]; omega)]
    unfold byteAt
    rw [bg_out (by omega), bg_out (by omega), bg_out (by omega), bg_out (by omega), bg_out (by omega), bg_out (by omega), bg_out (by omega), bg_out (by omega)]
    rfl
theorem pack_by {k : List Int} (h : is01 k) : isBy (pack k) := by
  intro x hx
  simp only [pack, List.mem_map] at hx
  obtain ⟨i, _, rfl⟩ := hx
  exact byteAt_bd h i
theorem ext_bg {a b : List Int} (hl : a.length = b.length) (h : ∀ i, i < a.length → bg a i = bg b i) : a = b := ext_rd hl fun i hi => by rw [bg_rd, bg_rd, h i hi]
theorem or8 (o : Int) (h0 : 0 ≤ o) (h1 : o < 256) (r : Nat) (hr : r < 8) (x : Int) (hx : x = 0 ∨ x = 1) (hm : o % 2 ^ (8 - r) = 0) : Go.bits .or .u8 o (x * 2 ^ (7 - r)) = o + x * 2 ^ (7 - r) := by
  obtain ⟨n, rfl⟩ := Int.eq_ofNat_of_zero_le h0
  have key : ∀ (r : Fin 8) (n : Fin 256) (x : Fin 2), ((n : Nat) : Int) % 2 ^ (8 - (r : Nat)) = 0 → Go.bits .or .u8 ((n : Nat) : Int) (((x : Nat) : Int) * 2 ^ (7 - (r : Nat))) = ((n : Nat) : Int) + ((x : Nat) : Int) * 2 ^ (7 - (r : Nat)) := by decide +kernel
  rcases hx with rfl | rfl
  · exact key ⟨r, hr⟩ ⟨n, by omega⟩ 0 hm
  · exact key ⟨r, hr⟩ ⟨n, by omega⟩ 1 hm
theorem putBit_pack (k : List Int) (x : Int) (h01 : is01 k) (hx : x = 0 ∨ x = 1) : putBit (pack k) k.length x = pack (k ++ [x]) := by
  have hl : (if k.length % 8 = 0 then pack k ++ [0] else pack k).length = k.length / 8 + 1 := by
    split
    · rw [List.length_append, pack_length, List.length_singleton]
      omega
    · rw [pack_length]
      omega
  have hb : ∀ i, bg (if k.length % 8 = 0 then pack k ++ [0] else pack k) i = byteAt k i := by
    intro i
    split
    · rw [bg_snoc, pack_bg]
      split
      · next e =>
        rw [pack_length] at e
        unfold byteAt
        rw [bg_out (by omega), bg_out (by omega), bg_out (by omega), bg_out (by omega), bg_out (by omega), bg_out (by omega), bg_out (by omega), bg_out (by omega)]
        rfl
      · rfl
    · exact pack_bg k i
  unfold putBit
  generalize (if k.length % 8 = 0 then pack k ++ [0] else pack k) = q at hl hb
  refine ext_bg (by rw [List.length_set, hl, pack_length, List.length_append, List.length_singleton]; omega) fun i hi => ?_
  rw [List.length_set, hl] at hi
  rw [pack_bg]
  by_cases hi2 : i = k.length / 8
  · subst hi2
    rw [bg_rd, hb, show bg (q.set (k.length / 8) (Go.bits .or .u8 (byteAt k (k.length / 8)) (x * 2 ^ (7 - k.length % 8)))) (k.length / 8) = Go.bits .or .u8 (byteAt k (k.length / 8)) (x * 2 ^ (7 - k.length % 8)) by
      simp [bg, List.getD_eq_getElem?_getD, hl]]
    obtain ⟨m, r, hn, hr⟩ : ∃ m r, k.length = 8 * m + r ∧ r < 8 := ⟨k.length / 8, k.length % 8, by omega, by omega⟩
    have e1 : k.length / 8 = m := by omega
    have e2 : k.length % 8 = r := by omega
    rw [e1, e2]
    have hz : ∀ j, r ≤ j → bg k (8 * m + j) = 0 := fun j hj => bg_out (by omega)
    have ho := byteAt_bd h01 m
    rw [or8 _ ho.1 ho.2 r hr x hx ?_]
    · unfold byteAt
      simp only [bg_snoc, hn]
      have hz0 := hz 0
      have hz1 := hz 1
      have hz2 := hz 2
      have hz3 := hz 3
      have hz4 := hz 4
      have hz5 := hz 5
      have hz6 := hz 6
      have hz7 := hz 7
      clear hz ho
      obtain rfl | rfl | rfl | rfl | rfl | rfl | rfl | rfl : r = 0 ∨ r = 1 ∨ r = 2 ∨ r = 3 ∨ r = 4 ∨ r = 5 ∨ r = 6 ∨ r = 7 := by omega
      all_goals (simp at *; omega)
    · have hz0 := hz 0
      have hz1 := hz 1
      have hz2 := hz 2
      have hz3 := hz 3
      have hz4 := hz 4
      have hz5 := hz 5
      have hz6 := hz 6
      have hz7 := hz 7
      unfold byteAt
      clear hz ho
      obtain rfl | rfl | rfl | rfl | rfl | rfl | rfl | rfl : r = 0 ∨ r = 1 ∨ r = 2 ∨ r = 3 ∨ r = 4 ∨ r = 5 ∨ r = 6 ∨ r = 7 := by omega
      all_goals (simp at *; omega)
  · rw [show bg (q.set (k.length / 8) (Go.bits .or .u8 (rd q ((k.length / 8 : Nat) : Int)) (x * 2 ^ (7 - k.length % 8)))) i = bg q i by
      simp [bg, List.getD_eq_getElem?_getD, List.getElem?_set, Ne.symm hi2], hb]
    unfold byteAt
    rw [bg_left (by omega), bg_left (by omega), bg_left (by omega), bg_left (by omega), bg_left (by omega), bg_left (by omega), bg_left (by omega), bg_left (by omega)]
theorem putBits_pack (w : Nat) (v : Int) : ∀ (d : Nat) (k : List Int), d ≤ w → is01 k → putBits d v w (pack k) k.length = pack (k ++ bitsOf d v) := by
  intro d
  induction d with
  | zero => intro k _ _; simp [putBits, bitsOf]
  | succ d ih =>
    intro k hd hk
    have hx : v / 2 ^ d % 2 = 0 ∨ v / 2 ^ d % 2 = 1 := by omega
    rw [putBits, show w - 1 - (w - (d + 1)) = d by omega, putBit_pack k _ hk hx]
    have := ih (k ++ [v / 2 ^ d % 2]) (by omega) (is01_append hk (by intro x h; simp at h; omega))
    rw [List.length_append, List.length_singleton] at this
    rw [this, bitsOf]
    simp
theorem unpack_cons (x : Int) (b : List Int) : unpack (x :: b) = bitsOf 8 x ++ unpack b := by simp [unpack]
theorem unpack_append (a b : List Int) : unpack (a ++ b) = unpack a ++ unpack b := by simp [unpack]
theorem unpack_length (b : List Int) : (unpack b).length = 8 * b.length := by
  induction b with
  | nil => rfl
  | cons x b ih =>
    rw [unpack_cons, List.length_append, bitsOf_length, ih, List.length_cons]
    omega
theorem unpack_01 (b : List Int) : is01 (unpack b) := by
  induction b with
  | nil => exact is01_nil
  | cons x b ih =>
    rw [unpack_cons]
    exact is01_append (bitsOf_01 8 x) ih
theorem bits8_bg (x : Int) (n : Nat) (h : n < 8) : bg (bitsOf 8 x) n = x / 2 ^ (7 - n) % 2 := by
  obtain rfl | rfl | rfl | rfl | rfl | rfl | rfl | rfl : n = 0 ∨ n = 1 ∨ n = 2 ∨ n = 3 ∨ n = 4 ∨ n = 5 ∨ n = 6 ∨ n = 7 := by omega
  all_goals simp [bg, bitsOf]
theorem unpack_bg (b : List Int) : ∀ n, n < 8 * b.length → bg (unpack b) n = bitAt b n := by
  induction b with
  | nil => intro n h; simp at h
  | cons x b ih =>
    intro n h
    rw [unpack_cons]
    by_cases hn : n < 8
    · rw [bg_left (by rw [bitsOf_length]; exact hn), bits8_bg x n hn]
      unfold bitAt
      rw [show n / 8 = 0 by omega, show n % 8 = n by omega]
      simp [rd]
    · rw [List.length_cons] at h
      rw [bg_right (by rw [bitsOf_length]; omega), bitsOf_length, ih (n - 8) (by omega)]
      unfold bitAt
      rw [rd_nat, rd_nat, show n / 8 = (n - 8) / 8 + 1 by omega, List.getD_cons_succ, show (n - 8) % 8 = n % 8 by omega]
theorem drop_bg {l : List Int} {n : Nat} (h : n < l.length) : l.drop n = bg l n :: l.drop (n + 1) := by
  rw [List.drop_eq_getElem_cons h]
  congr 1
  simp [bg, List.getD_eq_getElem?_getD, List.getElem?_eq_getElem h]
theorem getBits_val (b : List Int) : ∀ (d : Nat) (v : Int) (n : Nat), n + d ≤ 8 * b.length → getBits d v b n = valL v (((unpack b).drop n).take d) := by
  intro d
  induction d with
  | zero => intro v n _; simp [getBits, valL]
  | succ d ih =>
    intro v n h
    have hn : n < (unpack b).length := by rw [unpack_length]; omega
    rw [getBits, ih _ _ (by omega), drop_bg hn, List.take_succ_cons, unpack_bg b n (by omega)]
    rfl
theorem valL_append (a : Int) (l m : List Int) : valL a (l ++ m) = valL (valL a l) m := by simp [valL]
theorem valL_cons (a x : Int) (m : List Int) : valL a (x :: m) = valL (a * 2 + x) m := rfl
theorem emod_split (v a b : Int) (ha : 0 < a) : v % (a * b) = v / a % b * a + v % a := by
  rw [Int.emod_def v (a * b), Int.emod_def (v / a) b, Int.emod_def v a, ← Int.ediv_ediv_of_nonneg (by omega), Int.sub_mul, show a * b * (v / a / b) = b * (v / a / b) * a by ac_rfl, Int.mul_comm (v / a) a]
  omega
theorem valL_bits (w : Nat) (v : Int) : ∀ (d : Nat) (a : Int), valL a (bitsOf d v) = a * 2 ^ d + v % 2 ^ d := by
  intro d
  induction d with
  | zero => intro a; simp [bitsOf, valL]
  | succ d ih =>
    intro a
    rw [bitsOf, valL_cons, ih]
    have hp : (0 : Int) < 2 ^ d := Int.pow_pos (by decide)
    have h1 : v % 2 ^ (d + 1) = v / 2 ^ d % 2 * 2 ^ d + v % 2 ^ d := by
      rw [Int.pow_succ, emod_split _ _ _ hp]
    rw [h1, Int.pow_succ, Int.add_mul, Int.mul_assoc, Int.mul_comm 2 (2 ^ d)]
    omega
theorem valL_of_bits {w : Nat} {v : Int} (h0 : 0 ≤ v) (h : v < 2 ^ w) : valL 0 (bitsOf w v) = v := by
  rw [valL_bits w, Int.emod_eq_of_lt h0 h]
  omega
theorem valL_lin (l : List Int) : ∀ a : Int, valL a l = a * 2 ^ l.length + valL 0 l := by
  induction l with
  | nil => intro a; simp [valL]
  | cons x l ih =>
    intro a
    rw [valL_cons, valL_cons, ih (a * 2 + x), ih (0 * 2 + x), List.length_cons, Int.pow_succ, Int.add_mul, Int.add_mul, Int.mul_assoc, Int.mul_comm 2 (2 ^ l.length)]
    omega
theorem valL_bd {l : List Int} (h : is01 l) : 0 ≤ valL 0 l ∧ valL 0 l < 2 ^ l.length := by
  induction l with
  | nil => simp [valL]
  | cons x l ih =>
    have h1 := ih fun y hy => h y (List.mem_cons_of_mem _ hy)
    have h2 := h x List.mem_cons_self
    rw [valL_cons, valL_lin, List.length_cons, Int.pow_succ]
    rcases h2 with rfl | rfl <;> omega
theorem bitsOf_mod (d : Nat) (v : Int) : ∀ m, d ≤ m → bitsOf d (v % 2 ^ m) = bitsOf d v := by
  induction d with
  | zero => intro m _; rfl
  | succ d ih =>
    intro m hm
    rw [bitsOf, bitsOf, ih m (by omega)]
    congr 1
    obtain ⟨c, rfl⟩ : ∃ c, m = d + 1 + c := ⟨m - (d + 1), by omega⟩
    have hp : (0 : Int) < 2 ^ d := Int.pow_pos (by decide)
    have e1 : (2 : Int) ^ (d + 1 + c) = 2 ^ d * (2 * 2 ^ c) := by rw [Int.pow_add, Int.pow_succ, Int.mul_assoc]
    rw [e1, emod_split _ _ _ hp, Int.add_comm, Int.add_mul_ediv_right _ _ (by omega), Int.ediv_eq_zero_of_lt (Int.emod_nonneg _ (by omega)) (Int.emod_lt_of_pos _ hp), Int.zero_add, Int.emod_emod_of_dvd _ ⟨_, rfl⟩]
theorem bitsOf_val {l : List Int} (h : is01 l) : bitsOf l.length (valL 0 l) = l := by
  induction l with
  | nil => rfl
  | cons x l ih =>
    have hl : is01 l := fun y hy => h y (List.mem_cons_of_mem _ hy)
    have h2 := h x List.mem_cons_self
    have hb := valL_bd hl
    have hp : (0 : Int) < 2 ^ l.length := Int.pow_pos (by decide)
    have e : valL 0 (x :: l) = x * 2 ^ l.length + valL 0 l := by
      rw [valL_cons, valL_lin]
      congr 2
      omega
    rw [List.length_cons, bitsOf, e]
    congr 1
    · rw [Int.add_comm, Int.add_mul_ediv_right _ _ (by omega), Int.ediv_eq_zero_of_lt hb.1 hb.2]
      omega
    · rw [← bitsOf_mod l.length _ l.length (Nat.le_refl _), Int.add_comm, Int.add_mul_emod_self_right, Int.emod_eq_of_lt hb.1 hb.2]
      exact ih hl
theorem byteAt_unpack {b : List Int} (hb : isBy b) (i : Nat) (hi : i < b.length) : byteAt (unpack b) i = bg b i := by
  have hx : 0 ≤ bg b i ∧ bg b i < 256 := hb _ (by
    unfold bg
    rw [List.getD_eq_getElem?_getD, List.getElem?_eq_getElem hi]
    exact List.getElem_mem hi)
  unfold byteAt
  rw [unpack_bg b _ (by omega), unpack_bg b _ (by omega), unpack_bg b _ (by omega), unpack_bg b _ (by omega), unpack_bg b _ (by omega), unpack_bg b _ (by omega), unpack_bg b _ (by omega), unpack_bg b _ (by omega)]
  unfold bitAt
  rw [show 8 * i / 8 = i by omega, show (8 * i + 1) / 8 = i by omega, show (8 * i + 2) / 8 = i by omega, show (8 * i + 3) / 8 = i by omega, show (8 * i + 4) / 8 = i by omega, show (8 * i + 5) / 8 = i by omega, show (8 * i + 6) / 8 = i by omega, show (8 * i + 7) / 8 = i by omega]
  rw [show 8 * i % 8 = 0 by omega, show (8 * i + 1) % 8 = 1 by omega, show (8 * i + 2) % 8 = 2 by omega, show (8 * i + 3) % 8 = 3 by omega, show (8 * i + 4) % 8 = 4 by omega, show (8 * i + 5) % 8 = 5 by omega, show (8 * i + 6) % 8 = 6 by omega, show (8 * i + 7) % 8 = 7 by omega]
  rw [bg_rd]
  simp only [Nat.sub_zero, Nat.reduceSub, Int.reducePow]
  omega
theorem pack_unpack {b : List Int} (hb : isBy b) : pack (unpack b) = b := by
  have hl : (pack (unpack b)).length = b.length := by
    rw [pack_length, unpack_length]
    omega
  refine ext_bg hl fun i hi => ?_
  rw [pack_bg, byteAt_unpack hb i (by omega)]
theorem bitAt_pack {k : List Int} (h : is01 k) (n : Nat) : bitAt (pack k) n = bg k n := by
  unfold bitAt
  rw [bg_rd, pack_bg]
  obtain ⟨m, r, hn, hr⟩ : ∃ m r, n = 8 * m + r ∧ r < 8 := ⟨n / 8, n % 8, by omega, by omega⟩
  have e1 : n / 8 = m := by omega
  have e2 : n % 8 = r := by omega
  rw [e1, e2, hn]
  have h0 := bgb h (8 * m)
  have h1 := bgb h (8 * m + 1)
  have h2 := bgb h (8 * m + 2)
  have h3 := bgb h (8 * m + 3)
  have h4 := bgb h (8 * m + 4)
  have h5 := bgb h (8 * m + 5)
  have h6 := bgb h (8 * m + 6)
  have h7 := bgb h (8 * m + 7)
  unfold byteAt
  obtain rfl | rfl | rfl | rfl | rfl | rfl | rfl | rfl : r = 0 ∨ r = 1 ∨ r = 2 ∨ r = 3 ∨ r = 4 ∨ r = 5 ∨ r = 6 ∨ r = 7 := by omega
  all_goals (simp only [Nat.sub_zero, Nat.reduceSub, Int.reducePow, Nat.add_zero]; omega)
theorem unpack_pack {k : List Int} (h : is01 k) : unpack (pack k) = k ++ List.replicate (8 * ((k.length + 7) / 8) - k.length) 0 := by
  refine ext_bg (by rw [unpack_length, pack_length, List.length_append, List.length_replicate]; omega) fun i hi => ?_
  rw [unpack_length] at hi
  rw [unpack_bg _ i hi, bitAt_pack h]
  by_cases hi2 : i < k.length
  · rw [bg_left hi2]
  · rw [bg_right (by omega), bg_out (by omega)]
    unfold bg
    rw [List.getD_eq_getElem?_getD, List.getElem?_replicate]
    split <;> rfl
theorem pack_inj {k l : List Int} (hk : is01 k) (hl : is01 l) (hn : k.length = l.length) (h : pack k = pack l) : k = l := by
  have h1 := unpack_pack hk
  rw [h, unpack_pack hl, hn] at h1
  exact (List.append_inj h1 hn.symm).1.symm
theorem bits_zero (w : Nat) (v : Int) : (∀ x ∈ bitsOf w v, x = 0) ↔ v % 2 ^ w = 0 := by
  constructor
  · intro h
    have h1 := valL_bits w v w 0
    have h2 : ∀ (l : List Int), (∀ x ∈ l, x = 0) → valL 0 l = 0 := by
      intro l
      induction l with
      | nil => intro _; rfl
      | cons x l ih =>
        intro h
        rw [valL_cons, h x List.mem_cons_self]
        exact ih fun y hy => h y (List.mem_cons_of_mem _ hy)
    rw [h2 _ h] at h1
    omega
  · intro h x hx
    rw [← bitsOf_mod w v w (Nat.le_refl _), h] at hx
    have : ∀ d, ∀ x ∈ bitsOf d 0, x = 0 := by
      intro d
      induction d with
      | zero => intro x hx; simp [bitsOf] at hx
      | succ d ih =>
        intro x hx
        simp only [bitsOf, List.mem_cons] at hx
        rcases hx with rfl | hx
        · simp
        · exact ih x hx
    exact this w x hx
theorem endOf_endL (b : List Int) (hb : isBy b) (n : Nat) (hn : n ≤ 8 * b.length) : endOf b n = endL ((unpack b).drop n) := by
  unfold endOf endL
  rw [List.length_drop, unpack_length]
  by_cases h8 : 8 ≤ 8 * b.length - n
  · rw [if_pos h8, if_pos h8]
  · rw [if_neg h8, if_neg h8]
    by_cases h0 : 0 < 8 * b.length - n
    · rw [if_pos h0]
      obtain ⟨c, x, rfl⟩ : ∃ c x, b = c ++ [x] := ⟨b.dropLast, b.getLast (by intro e; subst e; simp at h0), (List.dropLast_concat_getLast _).symm⟩
      rw [List.length_append, List.length_singleton] at *
      obtain ⟨L, hL⟩ : ∃ L, 8 * (c.length + 1) - n = L := ⟨_, rfl⟩
      have hx := hb x (by simp)
      have e1 : rd (c ++ [x]) (((c.length + 1 : Nat) : Int) - 1) = x := rd_mid c x [] _ (by omega)
      have e2 : (unpack (c ++ [x])).drop n = bitsOf L x := by
        rw [unpack_append, List.drop_append, unpack_length, List.drop_eq_nil_of_le (by rw [unpack_length]; omega), List.nil_append, show n - 8 * c.length = 8 - L by omega]
        rw [unpack_cons, show unpack [] = [] from rfl, List.append_nil]
        have : L < 8 := by omega
        obtain rfl | rfl | rfl | rfl | rfl | rfl | rfl : L = 1 ∨ L = 2 ∨ L = 3 ∨ L = 4 ∨ L = 5 ∨ L = 6 ∨ L = 7 := by omega
        all_goals rfl
      rw [e1, e2, hL]
      have h3 : x * 2 ^ (8 - L) % 256 = 0 ↔ x % 2 ^ L = 0 := by
        obtain rfl | rfl | rfl | rfl | rfl | rfl | rfl : L = 1 ∨ L = 2 ∨ L = 3 ∨ L = 4 ∨ L = 5 ∨ L = 6 ∨ L = 7 := by omega
        all_goals (simp only [Nat.reduceSub, Int.reducePow]; omega)
      by_cases h4 : x % 2 ^ L = 0
      · rw [if_pos (h3.2 h4), if_pos ((bits_zero L x).2 h4)]
      · rw [if_neg (fun h => h4 (h3.1 h)), if_neg (fun h => h4 ((bits_zero L x).1 h))]
    · rw [if_neg h0, List.drop_eq_nil_of_le (by rw [unpack_length]; omega)]
      simp
end Go.Proofs.Ytjpepmnkiicgoaa.P
