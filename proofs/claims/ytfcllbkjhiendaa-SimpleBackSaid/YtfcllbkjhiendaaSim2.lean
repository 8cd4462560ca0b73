/- Layer 6: what Decode and the document's Decode come to. -/
import Derived.Test.YtfcllbkjhiendaaSim1
import Derived.Test.YtfcllbkjhiendaaCurS
import Derived.Lib.Strings
import Derived.Test.YtfcllbkjhiendaaPx4
import Derived.Test.YtfcllbkjhiendaaPx5
import Derived.Test.YtfcllbkjhiendaaPx7
import Derived.Test.YtfcllbkjhiendaaPx8
import Derived.Test.YtfcllbkjhiendaaPx3
namespace Go.Proofs.Ytfcllbkjhiendaa.Sim
open Go.RowKit Go.Proofs.Ytfcllbkjhiendaa.P Go.Proofs.Ytfcllbkjhiendaa.Kit Go.Proofs.Ytfcllbkjhiendaa.Var Go.Proofs.YtfcllbkjhiendaaW.PrintWords Go.Proofs.YtfcllbkjhiendaaW.PrintLast Go.Proofs.YtfcllbkjhiendaaW.PrintMore
set_option linter.unusedVariables false
set_option linter.unusedSimpArgs false

/-- A word's numbers from place i on. -/
def unN (v : Int) (w : Nat) : Nat → Nat → List Int
  | 0, _ => []
  | d + 1, i => v / 2 ^ (60 - (i + 1) * w) % 2 ^ w :: unN v w d (i + 1)
def unW (v : Int) : List Int := unN v (ww (v / 1152921504606846976).toNat) (nn (v / 1152921504606846976).toNat) 0
def fin6 (b0 : List Int) (n : Nat) (out s : List Int) : List Int × Int := if n < out.length then ([], 3) else if 0 < s.length then ([], 3) else if sEnc out = (b0, 0) then (out, 0) else ([], 3)
def sDecL (b0 : List Int) (n : Nat) : Nat → List Int → List Int → List Int × Int
  | 0, out, s => fin6 b0 n out s
  | d + 1, out, s => if out.length < n then (if s.length < 8 then ([], 2) else sDecL b0 n d (out ++ unW (be (s.take 8) 0)) (s.drop 8)) else fin6 b0 n out s
def sDec (b : List Int) (n : Int) : List Int × Int := if n < 0 ∨ 65536 < n then ([], 1) else sDecL b n.toNat n.toNat [] b
theorem unN_length (v : Int) (w d : Nat) : ∀ i, (unN v w d i).length = d := by
  induction d with
  | zero => intro i; rfl
  | succ d ih => intro i; rw [unN, List.length_cons, ih]
theorem unN_us (v : Int) (w d : Nat) (hw : w ≤ 60) : ∀ i, ∀ x ∈ unN v w d i, 0 ≤ x ∧ x < 2 ^ 60 := by
  induction d with
  | zero => intro i x hx; cases hx
  | succ d ih =>
    intro i x hx
    rw [unN] at hx
    have hp : (0 : Int) < 2 ^ w := Int.pow_pos (by decide)
    rcases List.mem_cons.1 hx with rfl | hx
    · exact ⟨Int.emod_nonneg _ (by omega), Int.lt_of_lt_of_le (Int.emod_lt_of_pos _ hp) (by exact_mod_cast Nat.pow_le_pow_right (by decide) hw)⟩
    · exact ih _ x hx
theorem unW_facts (v : Int) (h0 : 0 ≤ v) (h1 : v < 18446744073709551616) : 1 ≤ (unW v).length ∧ (unW v).length ≤ 240 ∧ ∀ x ∈ unW v, 0 ≤ x ∧ x < 2 ^ 60 := by
  have hs : (v / 1152921504606846976).toNat < 16 := by omega
  obtain ⟨f1, f2, f3, f4⟩ := room_facts _ hs
  unfold unW
  rw [unN_length]
  exact ⟨f1, f2, unN_us _ _ _ f3 0⟩
theorem us_of_60 {l : List Int} (h : ∀ x ∈ l, 0 ≤ x ∧ x < 2 ^ 60) : Us l := fun x hx => by
  have := h x hx
  have e : (2 : Int) ^ 60 = 1152921504606846976 := by decide
  rw [e] at this
  exact ⟨this.1, by omega⟩
theorem mask_w (w : Nat) (hw : w ≤ 60) : IntKind.u64.wrap (shl .u64 1 (w : Int) - 1) = 2 ^ w - 1 := by
  have key : ∀ w : Fin 61, IntKind.u64.wrap (shl .u64 1 ((w : Nat) : Int) - 1) = 2 ^ (w : Nat) - 1 := by decide +kernel
  exact key ⟨w, by omega⟩
theorem shr_e (v : Int) (e : Nat) (he : e ≤ 64) : shr .u64 v (e : Int) = v / 2 ^ e := by
  show v / 2 ^ min ((e : Int)).toNat 64 = _
  rw [Int.toNat_natCast, Nat.min_eq_left he]
theorem and_w (v : Int) (e w : Nat) (hw : w ≤ 60) (he : e ≤ 64) (h0 : 0 ≤ v) (h1 : v < 18446744073709551616) : Go.bits .and .u64 (shr .u64 v (e : Int)) (2 ^ w - 1) = v / 2 ^ e % 2 ^ w := by
  have hp : (0 : Int) < 2 ^ e := Int.pow_pos (by decide)
  have h2 : 0 ≤ v / 2 ^ e := Int.ediv_nonneg h0 (by omega)
  have h3 : v / 2 ^ e ≤ v := Int.ediv_le_self _ h0
  rw [shr_e v e he]
  exact k64_mask w (by omega) _ h2 (by omega)
theorem unpack_loop (v : Int) (h0 : 0 ≤ v) (h1 : v < 18446744073709551616) (w n : Nat) (hw : w ≤ 60) (hn : n ≤ 240) (hnw : n * w ≤ 60) (d : Nat) : ∀ i (out : List Int), i + d = n → out.length = i → Evn (fun k => simple_unpack.l0 k v (w : Int) out (n : Int) (i : Int)) (out ++ unN v w d i) := by
  induction d with
  | zero =>
    intro i out hi ho
    refine Evn.round ?_
    simp only [simple_unpack.l0]
    rw [unN, List.append_nil]
    exact Evn.neg (by omega) (Evn.pure _)
  | succ d ih =>
    intro i out hi ho
    have hiw : (i + 1) * w ≤ 60 := Nat.le_trans (Nat.mul_le_mul_right _ (by omega)) hnw
    have h2 := ih (i + 1) (out ++ [v / 2 ^ (60 - (i + 1) * w) % 2 ^ w]) (by omega) (by simp [ho])
    rw [List.append_assoc, List.singleton_append] at h2
    refine Evn.round ?_
    simp only [simple_unpack.l0, wrap_n i (show i < 140737488355328 by omega), wf_b i w hiw, wf_c _ hiw, mask_w w hw]
    refine Evn.pos (by omega) (Evn.pos (by omega) (Evn.pos (by omega) (Evn.pos (by omega) ?_)))
    rw [and_w v _ w hw (by omega) h0 h1, unN]
    exact h2
theorem unpack_ev (v : Int) (h0 : 0 ≤ v) (h1 : v < 18446744073709551616) : Evn (fun k => simple_unpack.f k v) (unW v) := by
  have hs : (v / 1152921504606846976).toNat < 16 := by omega
  obtain ⟨f1, f2, f3, f4⟩ := room_facts _ hs
  unfold simple_unpack.f unW
  rw [wrap64_id (by omega) (by omega)]
  have e : v / 1152921504606846976 = (((v / 1152921504606846976).toNat : Nat) : Int) := by omega
  generalize (v / 1152921504606846976).toNat = s at *
  rw [e]
  refine Evn.bindc (room_f s hs) ?_
  have := unpack_loop v h0 h1 (ww s) (nn s) f3 f2 f4 (nn s) 0 [] (by omega) rfl
  rw [List.nil_append] at this
  exact this
theorem be_bd (l : List Int) (hb : Bytes l) : ∀ (v : Int) (k : Nat), 0 ≤ v → v < 256 ^ k → 0 ≤ be l v ∧ be l v < 256 ^ (k + l.length) := by
  induction l with
  | nil => intro v k h0 h1; exact ⟨h0, h1⟩
  | cons x l ih =>
    intro v k h0 h1
    have hx := hb x (by simp)
    have := ih hb.tail (v * 256 + x) (k + 1) (by omega) (by rw [Int.pow_succ]; omega)
    rw [List.length_cons, show k + (l.length + 1) = k + 1 + l.length by omega]
    exact this
theorem be8 (l : List Int) (hb : Bytes l) (hl : l.length ≤ 8) : 0 ≤ be l 0 ∧ be l 0 < 18446744073709551616 := by
  obtain ⟨a, b⟩ := be_bd l hb 0 0 (by omega) (by simp)
  rw [Nat.zero_add] at b
  have key : ∀ k : Fin 9, (256 : Int) ^ (k : Nat) ≤ 18446744073709551616 := by decide
  have := key ⟨l.length, by omega⟩
  exact ⟨a, Int.lt_of_lt_of_le b this⟩
/-! the document's readings -/
theorem rBytes_f (b : List Int) (n : Int) (hl : b.length < 140737488355328) : casketref03_Bytes.f b n = some (cBytes b n) := by
  unfold casketref03_Bytes.f cBytes
  by_cases c0 : n < 0
  · rw [if_pos c0, if_pos c0]
  · rw [if_neg c0, if_neg c0]
    by_cases c1 : (b.length : Int) < n
    · rw [if_pos c1, if_pos c1]
    · rw [if_neg c1, if_neg c1]
      simp only [Option.bind_some]
      rw [if_pos (by omega), if_pos (by omega), if_pos (by simp; omega), List.nil_append]
theorem rFixed_loop (b rest : List Int) (e : Int) (hb : Bytes b) (hl : b.length ≤ 8) (t : List Int) : ∀ (p : List Int) (v : Int), b = p ++ t → 0 ≤ v → v < 256 ^ p.length → Evn (fun k => casketref03_Fixed.l0 k b rest e v (p.length : Int)) (be t v, rest, e) := by
  induction t with
  | nil =>
    intro p v e1 _ _
    refine Evn.round ?_
    simp only [casketref03_Fixed.l0]
    exact Evn.neg (by rw [e1]; simp) (Evn.pure _)
  | cons x t ih =>
    intro p v e1 h0 h1
    have hx := hb x (by rw [e1]; simp)
    have hr : rd b (p.length : Int) = x := by
      rw [e1]
      exact rd_mid _ _ _ _ rfl
    have hpl : p.length + 1 + t.length = b.length := by rw [e1]; simp; omega
    have hp : (256 : Int) ^ p.length ≤ 72057594037927936 := by
      have key : ∀ k : Fin 8, (256 : Int) ^ (k : Nat) ≤ 72057594037927936 := by decide
      exact key ⟨p.length, by omega⟩
    have hs : (256 : Int) ^ (p.length + 1) = 256 ^ p.length * 256 := Int.pow_succ _ _
    have h2 := ih (p ++ [x]) (v * 256 + x) (by rw [e1]; simp) (by omega) (by rw [List.length_append, List.length_singleton, hs]; omega)
    rw [List.length_append, List.length_singleton] at h2
    have e0 := wrap_n p.length (by omega)
    have e3 : IntKind.u64.wrap (IntKind.u64.wrap (v * 256) + IntKind.u64.wrap x) = v * 256 + x := by rw [k64_id (v * 256) (by omega) (by omega), k64_id x (by omega) (by omega), k64_id _ (by omega) (by omega)]
    refine Evn.round ?_
    simp only [casketref03_Fixed.l0, e0, hr, e3]
    clear e0 e3
    exact Evn.pos (by omega) (Evn.pos (by omega) h2)
theorem rFixed8_ev (b : List Int) (hb : Bytes b) (hl : b.length < 140737488355328) : Evn (fun k => casketref03_Fixed.f k b 8) (if b.length < 8 then (0, b, 2) else (be (b.take 8) 0, b.drop 8, 0)) := by
  unfold casketref03_Fixed.f
  refine Evn.neg (by decide) (Evn.round ?_)
  simp only [casketref03_Fixed.j0]
  refine Evn.neg (by decide) (Evn.bindc (rBytes_f b 8 hl) ?_)
  unfold cBytes
  rw [if_neg (by decide)]
  by_cases c : b.length < 8
  · rw [if_pos c, if_pos (by omega)]
    exact rFixed_loop [] b 2 Bytes.nil (by simp) [] [] 0 rfl (by omega) (by simp)
  · rw [if_neg c, if_neg (by omega)]
    exact rFixed_loop (b.take 8) (b.drop 8) 0 (hb.take 8) (by simp; omega) (b.take 8) [] 0 rfl (by omega) (by simp)
theorem cFixed8 (b : List Int) : cFixed b 8 = if b.length < 8 then (0, b, 2) else (be (b.take 8) 0, b.drop 8, 0) := by
  unfold cFixed cBytes
  rw [if_neg (by decide), if_neg (by decide)]
  by_cases c : b.length < 8
  · rw [if_pos c, if_pos (by omega)]
    rfl
  · rw [if_neg c, if_neg (by omega)]
    rfl
/-! Decode -/
theorem map_byte (a : List Int) : ∀ b : List Int, Bytes a → Bytes b → (a.map fun n => UInt8.ofNat n.toNat) = (b.map fun n => UInt8.ofNat n.toNat) → a = b := by
  induction a with
  | nil =>
    intro b _ _ h
    cases b with
    | nil => rfl
    | cons y b => simp at h
  | cons x a ih =>
    intro b ha hb h
    cases b with
    | nil => simp at h
    | cons y b =>
      rw [List.map_cons, List.map_cons] at h
      injection h with h1 h2
      have hx := ha x (by simp)
      have hy := hb y (by simp)
      have h3 := congrArg UInt8.toNat h1
      rw [UInt8.toNat_ofNat', UInt8.toNat_ofNat'] at h3
      rw [ih b ha.tail hb.tail h2, show x = y by omega]
theorem str_same (a b : List Int) (ha : Bytes a) (hb : Bytes b) : ((strOfNums a).toList == (strOfNums b).toList) = decide (a = b) := by
  rw [Lib.toList_data, Lib.toList_data, strOfNums_data, strOfNums_data]
  by_cases c : a = b
  · rw [c]
    simp
  · rw [decide_eq_false c]
    refine beq_eq_false_iff_ne.2 fun h => c (map_byte a b ha hb h)
theorem sEncN_by (d : Nat) : ∀ l, Bytes (sEncN d l) := by
  induction d with
  | zero => intro l; exact Bytes.nil
  | succ d ih =>
    intro l
    rw [sEncN]
    split
    · exact Bytes.nil
    · exact Bytes.append (fixB_bytes _ _) (ih _)
theorem sEncN_len (d : Nat) : ∀ l, (sEncN d l).length ≤ 8 * d := by
  induction d with
  | zero => intro l; simp [sEncN]
  | succ d ih =>
    intro l
    rw [sEncN]
    split
    · simp
    · rw [List.length_append, fixB_length]
      have := ih (l.drop (nn (findS 15 0 l)))
      omega
theorem small60_of (l : List Int) (h : ∀ x ∈ l, x < 2 ^ 60) (d : Nat) : ∀ i, i + d = l.length → small60 d i l = true := by
  induction d with
  | zero => intro i _; rfl
  | succ d ih =>
    intro i hi
    rw [small60, if_pos (h _ (rd_mem l (i : Int) (by omega) (by omega)))]
    exact ih (i + 1) (by omega)
theorem sEnc_ok (l : List Int) (hl : l.length ≤ 65536) (h : ∀ x ∈ l, x < 2 ^ 60) : sEnc l = (sEncN l.length l, 0) := by
  unfold sEnc
  rw [if_neg (by omega), if_pos (small60_of l h l.length 0 (by omega))]
theorem sEnc_by (l : List Int) : Bytes (sEnc l).1 := by
  unfold sEnc
  split
  · exact Bytes.nil
  · split
    · exact sEncN_by _ _
    · exact Bytes.nil
theorem written_f (b l : List Int) (hb : Bytes b) (hu : Us l) (hl : l.length < 140737488355328) : simple_written.f b l = some (decide (sEnc l = (b, 0))) := by
  unfold simple_written.f
  rw [Enc_f l hu hl, Option.bind_some]
  by_cases c : (sEnc l).2 = 0
  · rw [if_pos c, str_same _ _ (sEnc_by l) hb]
    congr 1
    have : sEnc l = (b, 0) ↔ (sEnc l).1 = b := by
      constructor
      · intro h; rw [h]
      · intro h; rw [← h, ← c]
    simp [this]
  · rw [if_neg c]
    congr 1
    have : ¬ sEnc l = (b, 0) := fun h => c (by rw [h])
    simp [this]
theorem Dec_loop (b : List Int) (hb : Bytes b) (n : Nat) (hn : n ≤ 65536) (d : Nat) : ∀ (out s : List Int), n ≤ out.length + d → out.length ≤ 65536 + 240 → (∀ x ∈ out, 0 ≤ x ∧ x < 2 ^ 60) → Bytes s → s.length < 140737488355328 → Evn (fun k => simple_Decode.l0 k b (n : Int) out s) (sDecL b n d out s) := by
  have last : ∀ (out s : List Int), ¬ out.length < n → out.length ≤ 65536 + 240 → (∀ x ∈ out, 0 ≤ x ∧ x < 2 ^ 60) → Bytes s → s.length < 140737488355328 → Evn (fun k => simple_Decode.l0 k b (n : Int) out s) (fin6 b n out s) := by
    intro out s h ho hu hs hsl
    refine Evn.round ?_
    simp only [simple_Decode.l0]
    refine Evn.neg (by omega) ?_
    unfold fin6
    by_cases c1 : n < out.length
    · rw [if_pos c1]
      exact Evn.pos (by omega) (Evn.pure _)
    · rw [if_neg c1]
      refine Evn.neg (by omega) (Evn.bindc (if_pos ⟨hs, hsl⟩) ?_)
      by_cases c2 : 0 < s.length
      · rw [if_pos c2, if_pos c2]
        exact Evn.neg (by simp) (Evn.pure _)
      · rw [if_neg c2, if_neg c2]
        refine Evn.pos rfl (Evn.bindc (written_f b out hb (us_of_60 hu) (by omega)) ?_)
        by_cases c3 : sEnc out = (b, 0)
        · rw [if_pos c3, decide_eq_true c3]
          exact Evn.pos rfl (Evn.pure _)
        · rw [if_neg c3, decide_eq_false c3]
          exact Evn.neg (by decide) (Evn.pure _)
  induction d with
  | zero =>
    intro out s h ho hu hs hsl
    rw [sDecL]
    exact last out s (by omega) ho hu hs hsl
  | succ d ih =>
    intro out s h ho hu hs hsl
    rw [sDecL]
    by_cases c : out.length < n
    · rw [if_pos c]
      refine Evn.round ?_
      simp only [simple_Decode.l0]
      refine Evn.pos (by omega) (Evn.bindc (if_pos ⟨hs, hsl⟩) ?_)
      rw [cFixed8]
      by_cases c8 : s.length < 8
      · rw [if_pos c8, if_pos c8]
        exact Evn.neg (by simp) (Evn.pure _)
      · rw [if_neg c8, if_neg c8]
        obtain ⟨b0, b1⟩ := be8 (s.take 8) (hs.take 8) (by simp; omega)
        obtain ⟨q1, q2, q3⟩ := unW_facts _ b0 b1
        refine Evn.pos rfl ?_
        simp only
        refine Evn.bind (unpack_ev _ b0 b1) (Evn.pos (by omega) ?_)
        exact ih _ _ (by rw [List.length_append]; omega) (by rw [List.length_append]; omega) (fun x hx => (List.mem_append.1 hx).elim (hu x) (q3 x)) (hs.drop 8) (by rw [List.length_drop]; omega)
    · rw [if_neg c]
      exact last out s c ho hu hs hsl
theorem Dec_ev (b : List Int) (hb : Bytes b) (hl : b.length < 140737488355328) (n : Int) : Evn (fun k => simple_Decode.f k b n) (sDec b n) := by
  unfold simple_Decode.f sDec
  by_cases c0 : n < 0
  · rw [if_pos (.inl c0)]
    refine Evn.pos c0 (Evn.round ?_)
    simp only [simple_Decode.j0]
    exact Evn.pos trivial (Evn.pure _)
  · refine Evn.neg c0 (Evn.round ?_)
    simp only [simple_Decode.j0]
    by_cases c1 : 65536 < n
    · rw [if_pos (.inr c1)]
      exact Evn.pos (by simp; omega) (Evn.pure _)
    · rw [if_neg (by omega)]
      refine Evn.neg (by simp; omega) (Evn.bindc (if_pos ⟨hb, hl⟩) ?_)
      obtain ⟨m, rfl⟩ := Int.eq_ofNat_of_zero_le (show 0 ≤ n by omega)
      rw [Int.toNat_natCast]
      exact Dec_loop b hb m (by omega) m [] b (by simp) (by simp) (fun x hx => by cases hx) hb hl
theorem word_bits (v : Int) (e w : Nat) (h : w + e ≤ 60) : v / 2 ^ e % 2 ^ w = v % 1152921504606846976 / 2 ^ e % 2 ^ w := by
  have hp : (0 : Int) < 2 ^ e := Int.pow_pos (by decide)
  have e1 : (1152921504606846976 : Int) = 2 ^ e * (2 ^ w * 2 ^ (60 - w - e)) := by
    rw [← Int.pow_add, ← Int.pow_add, show e + (w + (60 - w - e)) = 60 by omega]
    decide
  have e2 : v = v % 1152921504606846976 + 2 ^ e * (2 ^ w * 2 ^ (60 - w - e)) * (v / 1152921504606846976) := by
    rw [← e1]
    omega
  rw [e2, Int.mul_assoc, Int.add_mul_ediv_left _ _ (by omega), Int.mul_assoc, Int.add_mul_emod_self_left]
  congr 2
  rw [← Int.mul_assoc, ← Int.mul_assoc, Int.mul_assoc (2 ^ e), ← e1]
  omega
theorem ref_word (v : Int) (e w : Nat) (hw : w + e ≤ 60) (h0 : 0 ≤ v) (h1 : v < 18446744073709551616) : Go.bits .and .u64 (shr .u64 (IntKind.u64.wrap (v * 16)) ((e + 4 : Nat) : Int)) (2 ^ w - 1) = v / 2 ^ e % 2 ^ w := by
  have hp : (0 : Int) < 2 ^ e := Int.pow_pos (by decide)
  rw [wrapu64, and_w _ (e + 4) w (by omega) (by omega) (by omega) (by omega), word_bits v e w hw, show v * 16 % 18446744073709551616 = v % 1152921504606846976 * 16 by omega, Int.pow_add, show (2 : Int) ^ 4 = 16 by decide, Int.mul_comm (2 ^ e) 16, ← Int.ediv_ediv_of_nonneg (by decide), Int.mul_ediv_cancel _ (by decide)]
theorem rDec_word (b : List Int) (n : Int) (s : List Int) (r : List Int × Int) (v : Int) (h0 : 0 ≤ v) (h1 : v < 18446744073709551616) (w m : Nat) (hw : w ≤ 60) (hm : m ≤ 240) (hmw : m * w ≤ 60) (d : Nat) : ∀ i (out : List Int), i + d = m → out.length + d < 17592186044416 → Evn (fun k => casketref06_Decode.l0 k b n (out ++ unN v w d i) s) r → Evn (fun k => casketref06_Decode.l1 k b n out s v (m : Int) (w : Int) (i : Int)) r := by
  induction d with
  | zero =>
    intro i out hi ho h
    rw [unN, List.append_nil] at h
    refine Evn.round ?_
    simp only [casketref06_Decode.l1]
    exact Evn.neg (by omega) h
  | succ d ih =>
    intro i out hi ho h
    have hiw : (i + 1) * w ≤ 60 := Nat.le_trans (Nat.mul_le_mul_right _ (by omega)) hmw
    have hiw2 : (i + 1) * w = i * w + w := by rw [Nat.add_mul, Nat.one_mul]
    rw [unN] at h
    refine Evn.round ?_
    simp only [casketref06_Decode.l1, wrap_n i (show i < 140737488355328 by omega), wf_b i w hiw, wf_e _ hiw, k64_id (w : Int) (show (0 : Int) ≤ (w : Int) by omega) (show (w : Int) < 18446744073709551616 by omega), mask_w w hw]
    refine Evn.pos (by omega) (Evn.pos (by omega) (Evn.pos (by omega) (Evn.pos (by omega) ?_)))
    rw [ref_word v _ w (by omega) h0 h1]
    refine ih (i + 1) _ (by omega) (by rw [List.length_append, List.length_singleton]; omega) ?_
    rw [List.append_assoc, List.singleton_append]
    exact h
theorem rSame1_loop (a b : List Int) (hl : a.length = b.length) (hs : a.length < 140737488355328) (d i : Nat) (hi : i + d = a.length) (h : a.take i = b.take i) : Evn (fun k => casketref01_Same.l0 k a b (i : Int)) (decide (a = b)) := Same_loop a b hl hs d i hi h
theorem rDec_loop (b : List Int) (hb : Bytes b) (hbl : b.length < 140737488355328) (n : Nat) (hn : n ≤ 65536) (d : Nat) : ∀ (out s : List Int), n ≤ out.length + d → out.length ≤ 65536 + 240 → (∀ x ∈ out, 0 ≤ x ∧ x < 2 ^ 60) → Bytes s → s.length < 140737488355328 → Evn (fun k => casketref06_Decode.l0 k b (n : Int) out s) (sDecL b n d out s) := by
  have j3t : ∀ out, Evn (fun k => casketref06_Decode.j3 k b out true) ([], 3) := by
    intro out
    refine Evn.round ?_
    simp only [casketref06_Decode.j3]
    exact Evn.pos trivial (Evn.pure _)
  have last : ∀ (out s : List Int), ¬ out.length < n → out.length ≤ 65536 + 240 → (∀ x ∈ out, 0 ≤ x ∧ x < 2 ^ 60) → Bytes s → s.length < 140737488355328 → Evn (fun k => casketref06_Decode.l0 k b (n : Int) out s) (fin6 b n out s) := by
    intro out s h ho hu hs hsl
    refine Evn.round ?_
    simp only [casketref06_Decode.l0]
    refine Evn.neg (by omega) ?_
    unfold fin6
    by_cases c1 : n < out.length
    · rw [if_pos c1]
      exact Evn.neg (by omega) (j3t out)
    · rw [if_neg c1]
      refine Evn.pos (by omega) ?_
      by_cases c2 : 0 < s.length
      · rw [if_pos c2, decide_eq_true (by omega)]
        exact j3t out
      · rw [if_neg c2, decide_eq_false (by omega)]
        refine Evn.round ?_
        simp only [casketref06_Decode.j3]
        refine Evn.neg (by decide) (Evn.bind (rEnc_ev out (us_of_60 hu)) ?_)
        rw [sEnc_ok out (by omega) (fun x hx => (hu x hx).2)]
        simp only
        refine Evn.bind (Same_ev (sEncN out.length out) b (by have := sEncN_len out.length out; omega)) ?_
        by_cases c3 : sEncN out.length out = b
        · refine Evn.pos (by simp [c3]) ?_
          rw [if_pos (by rw [c3])]
          exact Evn.pure _
        · refine Evn.neg (by simp [c3]) ?_
          rw [if_neg (by intro h; injection h with h1 h2; exact c3 h1)]
          exact Evn.pure _
  induction d with
  | zero =>
    intro out s h ho hu hs hsl
    rw [sDecL]
    exact last out s (by omega) ho hu hs hsl
  | succ d ih =>
    intro out s h ho hu hs hsl
    rw [sDecL]
    by_cases c : out.length < n
    · rw [if_pos c]
      refine Evn.round ?_
      simp only [casketref06_Decode.l0]
      refine Evn.pos (by omega) (Evn.bind (rFixed8_ev s hs hsl) ?_)
      by_cases c8 : s.length < 8
      · rw [if_pos c8, if_pos c8]
        exact Evn.neg (by simp) (Evn.pure _)
      · rw [if_neg c8, if_neg c8]
        obtain ⟨b0, b1⟩ := be8 (s.take 8) (hs.take 8) (by simp; omega)
        obtain ⟨q1, q2, q3⟩ := unW_facts _ b0 b1
        have h2 := ih (out ++ unW (be (s.take 8) 0)) (s.drop 8) (by rw [List.length_append]; omega) (by rw [List.length_append]; omega) (fun x hx => (List.mem_append.1 hx).elim (hu x) (q3 x)) (hs.drop 8) (by rw [List.length_drop]; omega)
        refine Evn.pos rfl ?_
        simp only
        generalize be (s.take 8) 0 = v at *
        have hss : (v / 1152921504606846976).toNat < 16 := by omega
        obtain ⟨f1, f2, f3, f4⟩ := room_facts _ hss
        rw [wrap64_id (by omega) (by omega)]
        have ev : v / 1152921504606846976 = (((v / 1152921504606846976).toNat : Nat) : Int) := by omega
        unfold unW at h2 ⊢
        generalize (v / 1152921504606846976).toNat = s' at *
        rw [ev]
        refine Evn.bindc (rRoom_f s' hss) ?_
        exact rDec_word b (n : Int) (s.drop 8) _ v b0 b1 (ww s') (nn s') f3 f2 f4 (nn s') 0 out (by omega) (by omega) h2
    · rw [if_neg c]
      exact last out s c ho hu hs hsl
theorem rDec_ev (b : List Int) (hb : Bytes b) (hl : b.length < 140737488355328) (n : Int) : Evn (fun k => casketref06_Decode.f k b n) (sDec b n) := by
  unfold casketref06_Decode.f sDec
  by_cases c0 : n < 0
  · rw [if_pos (.inl c0)]
    refine Evn.pos c0 (Evn.round ?_)
    simp only [casketref06_Decode.j0]
    exact Evn.pos trivial (Evn.pure _)
  · refine Evn.neg c0 (Evn.round ?_)
    simp only [casketref06_Decode.j0]
    by_cases c1 : 65536 < n
    · rw [if_pos (.inr c1)]
      exact Evn.pos (by simp; omega) (Evn.pure _)
    · rw [if_neg (by omega)]
      refine Evn.neg (by simp; omega) ?_
      obtain ⟨m, rfl⟩ := Int.eq_ofNat_of_zero_le (show 0 ≤ n by omega)
      rw [Int.toNat_natCast]
      exact rDec_loop b hb hl m (by omega) m [] b (by simp) (by simp) (fun x hx => by cases hx) hb hl
end Go.Proofs.Ytfcllbkjhiendaa.Sim
