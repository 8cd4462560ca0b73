/- dict as plain lists: what is encoded and decoded, by the program and by the document. -/
import Derived.Test.YtfnnlcmfahadhaaRef
import Derived.Test.YtfnnlcmfahadhaaBitS
import Derived.Test.YtfnnlcmfahadhaaDEnc
import Derived.Test.YtfnnlcmfahadhaaPx7
import Derived.Test.YtfnnlcmfahadhaaPx6
namespace Go.Proofs.Ytfnnlcmfahadhaa.DicP
open Go.RowKit Go.Proofs.Ytfnnlcmfahadhaa.P Go.Proofs.Ytfnnlcmfahadhaa.Kit Go.Proofs.Ytfnnlcmfahadhaa.Var Go.Proofs.YtfnnlcmfahadhaaW.PrintWords Go.Proofs.YtfnnlcmfahadhaaW.PrintLast Go.Proofs.YtfnnlcmfahadhaaW.PrintMore
set_option linter.unusedVariables false
set_option linter.unusedSimpArgs false

def U64 (l : List Int) : Prop := ∀ x ∈ l, 0 ≤ x ∧ x ≤ 18446744073709551615
theorem u64_of {l : List Int} (h : ∀ x ∈ l, (Lit.int .u64 x).wf = true) : U64 l := fun x hx => by have := wfu64 (h x hx); omega
theorem U64.snoc {l : List Int} (h : U64 l) {x : Int} (hx : 0 ≤ x ∧ x ≤ 18446744073709551615) : U64 (l ++ [x]) := fun y hy => by
  rcases List.mem_append.1 hy with h1 | h1
  · exact h y h1
  · rw [List.mem_singleton] at h1
    rw [h1]
    exact hx
theorem dict_len (l : List Int) : (dictOf l).length ≤ l.length := by
  have := dictOf_len l l.length (Nat.le_refl _)
  rwa [List.take_length] at this
theorem dict_u64 {l : List Int} (h : U64 l) : U64 (dictOf l) := fun x hx => h x ((mem_dictOf l x).1 hx)
theorem fixes_by (d : List Int) : Bytes (fixesB d) := by
  intro x hx
  obtain ⟨v, _, hv⟩ := List.mem_flatMap.1 hx
  exact fixB_bytes v 8 x hv
theorem places_01 (d l : List Int) : is01 (placesB d l) := by
  intro x hx
  obtain ⟨v, _, hv⟩ := List.mem_flatMap.1 hx
  exact bitsOf_01 _ _ x hv
theorem enc_by (l : List Int) : Bytes (dEncB l) := Bytes.append (Bytes.append (fun x hx => vn_byte _ x hx) (fixes_by _)) (pack_by (places_01 _ _))
theorem places_len {l : List Int} (h : l.length ≤ 65536) : (placesB (dictOf l) l).length ≤ 65536 * 16 := by
  rw [placesB_length]
  have := dict_len l
  exact Nat.mul_le_mul h (wD_le _ (by omega))
theorem enc_len {l : List Int} (h : l.length ≤ 65536) : (dEncB l).length ≤ 700000 := by
  have h1 := vn_len10 (dictOf l).length (by have := dict_len l; omega)
  have h2 := places_len h
  have h3 := dict_len l
  rw [dEncB, List.length_append, List.length_append, fixesB_length, pack_length]
  omega
theorem Enc_f {l : List Int} (h : U64 l) (hl : l.length < 140737488355328) : dict_Encode.f l = some (dEnc l) := if_pos ⟨h, hl⟩
theorem dEnc_ok {l : List Int} (hl : l.length ≤ 65536) : dEnc l = (dEncB l, 0) := if_neg (by omega)
/-! Decode -/
def dictP : Nat → List Int → List Int → List Int × Int × List Int
  | 0, out, c => (out, 0, c)
  | m + 1, out, c => if c.length < 8 then ([], 2, c) else dictP m (out ++ [be (c.take 8) 0]) (c.drop 8)
def dLoop (b d : List Int) (w : Nat) : Nat → List Int → List Int → List Int × Int
  | 0, out, _ => if dEncB out = b then (out, 0) else ([], 3)
  | n + 1, out, s => if valL 0 (s.take w) < (d.length : Int) then dLoop b d w n (out ++ [rd d (valL 0 (s.take w))]) (s.drop w) else ([], 3)
def dRest (b : List Int) (n : Nat) (d r : List Int) : List Int × Int := if 8 * r.length < n * wD d.length then ([], 2) else dLoop b d (wD d.length) n [] (unpack r)
def dTail (b : List Int) (n : Nat) (t : List Int × Int × List Int) : List Int × Int := if t.2.1 = 0 then dRest b n t.1 t.2.2 else ([], t.2.1)
def dDec (b : List Int) (n : Int) : List Int × Int := if n < 0 ∨ 65536 < n then ([], 1) else if (cVarint b).2.2 = 0 then (if n < (cVarint b).1 then ([], 3) else dTail b n.toNat (dictP (cVarint b).1.toNat [] (cVarint b).2.1)) else ([], (cVarint b).2.2)
theorem be_ok {c : List Int} (hb : Bytes c) : 0 ≤ be (c.take 8) 0 ∧ be (c.take 8) 0 ≤ 18446744073709551615 := by
  have := be8 (c.take 8) (hb.take 8) (by rw [List.length_take]; omega)
  omega
theorem dictP_facts : ∀ (m : Nat) (out c : List Int), Bytes c → U64 out → (dictP m out c).2.1 = 0 → (dictP m out c).1.length = out.length + m ∧ U64 (dictP m out c).1 ∧ Bytes (dictP m out c).2.2 ∧ (dictP m out c).2.2.length ≤ c.length
  | 0, out, c, hc, hu, _ => ⟨rfl, hu, hc, Nat.le_refl _⟩
  | m + 1, out, c, hc, hu, h => by
    rw [dictP] at h ⊢
    split at h
    · cases h
    · next h8 =>
      rw [if_neg h8]
      obtain ⟨a, b, e, f⟩ := dictP_facts m _ (c.drop 8) (hc.drop 8) (hu.snoc (be_ok hc)) h
      rw [List.length_append, List.length_singleton] at a
      rw [List.length_drop] at f
      exact ⟨by omega, b, e, by omega⟩
theorem vread_cases (b : List Int) (hb : Bytes b) : (∃ u rest, u < 18446744073709551616 ∧ b = vn u ++ rest ∧ cVarint b = ((u : Int), rest, 0)) ∨ (cVarint b).2.2 ≠ 0 := by
  by_cases h3 : (cVarint b).2.2 = 0
  · left
    obtain ⟨u, e1, e2, e3⟩ := cV_only b hb (cVarint b).1 (cVarint b).2.1 (Prod.ext_iff.mpr ⟨rfl, Prod.ext_iff.mpr ⟨rfl, h3⟩⟩)
    exact ⟨u, (cVarint b).2.1, e2, e3, Prod.ext_iff.mpr ⟨e1, Prod.ext_iff.mpr ⟨rfl, h3⟩⟩⟩
  · exact .inr h3
theorem cgood_of {b : List Int} (hb : Bytes b) (hl : b.length < 140737488355328) : cgood b := ⟨hb, hl⟩
theorem Dict_loop (m : Nat) : ∀ (out c : List Int) (i : Nat), (i : Int) + m < 18446744073709551616 → Bytes c → c.length < 140737488355328 → out.length + m < 17592186044416 → Evn (fun k => dict_dictionary.l0 k out ((i + m : Nat) : Int) (i : Int) c) (dictP m out c) := by
  induction m with
  | zero =>
    intro out c i hi hc hl ho
    refine Evn.round ?_
    simp only [dict_dictionary.l0]
    exact Evn.neg (by omega) (Evn.pure _)
  | succ m ih =>
    intro out c i hi hc hl ho
    refine Evn.round ?_
    simp only [dict_dictionary.l0]
    have hF : cursor_Cursor_Fixed.f c 8 = some ((fixedP 8 c).1, (fixedP 8 c).2.2, (fixedP 8 c).2.1) := by
      unfold cursor_Cursor_Fixed.f
      rw [if_pos (cgood_of hc hl), show (8 : Int) = ((8 : Nat) : Int) from rfl, cFixed_eq 8 (by decide)]
    refine Evn.pos (by omega) (Evn.bindc hF ?_)
    rw [dictP]
    unfold fixedP
    by_cases h8 : c.length < 8
    · rw [if_pos h8, if_pos h8]
      exact Evn.neg (show ¬ (2 : Int) = 0 by decide) (Evn.pure _)
    · rw [if_neg h8, if_neg h8]
      have h1 := ih (out ++ [be (c.take 8) 0]) (c.drop 8) (i + 1) (by omega) (hc.drop 8) (by rw [List.length_drop]; omega) (by rw [List.length_append, List.length_singleton]; omega)
      rw [show i + 1 + m = i + (m + 1) by omega] at h1
      rw [wrapu64, show ((i : Int) + 1) % 18446744073709551616 = ((i + 1 : Nat) : Int) by omega]
      exact Evn.pos rfl (Evn.pos (by omega) h1)
theorem val_w {s : List Int} (h : is01 s) {w : Nat} (hw : w ≤ 16) (hl : w ≤ s.length) : 0 ≤ valL 0 (s.take w) ∧ valL 0 (s.take w) < 65537 := by
  have h1 := valL_bd (is01_take h w)
  rw [List.length_take, Nat.min_eq_left hl] at h1
  have h2 : (2 : Int) ^ w ≤ 2 ^ 16 := by
    have := Nat.pow_le_pow_right (show 0 < 2 by decide) hw
    exact_mod_cast this
  have h3 : (2 : Int) ^ 16 = 65536 := by decide
  omega
theorem pLoop {b d : List Int} {w n : Nat} (hb : Bytes b) (hbl : b.length < 140737488355328) (hd : U64 d) (hdl : d.length ≤ 65536) (hw : w ≤ 16) (hn : n ≤ 65536) (m : Nat) : ∀ (out s : List Int) (i : Nat), i + m = n → out.length = i → U64 out → is01 s → m * w ≤ s.length → Evn (fun k => dict_Decode.l0 k b d (w : Int) out (n : Int) (i : Int) s) (dLoop b d w m out s) := by
  induction m with
  | zero =>
    intro out s i hi ho hu h01 hl
    have he := enc_len (l := out) (by omega)
    refine Evn.round ?_
    simp only [dict_Decode.l0]
    refine Evn.neg (by omega) (Evn.bindc (Enc_f hu (by omega)) ?_)
    rw [dEnc_ok (by omega)]
    refine Evn.bindc (show bytes_Equal.f (dEncB out) b = some (decide (dEncB out = b)) from congrArg some (str_same _ _ (enc_by _) hb)) ?_
    rw [dLoop]
    by_cases c : dEncB out = b
    · rw [if_pos c]
      exact Evn.pos (decide_eq_true c) (Evn.pure _)
    · rw [if_neg c]
      exact Evn.neg (by simpa using c) (Evn.pure _)
  | succ m ih =>
    intro out s i hi ho hu h01 hl
    have e : (m + 1) * w = w + m * w := by rw [Nat.add_mul]; omega
    have hws : w ≤ s.length := by omega
    obtain ⟨v0, v1⟩ := val_w h01 hw hws
    have hG : bits_Reader_Get.f s (w : Int) = some (valL 0 (s.take w), 0, s.drop w) := by
      unfold bits_Reader_Get.f rGet
      rw [if_neg (by omega), Int.toNat_natCast, if_neg (by omega)]
    refine Evn.round ?_
    simp only [dict_Decode.l0]
    rw [wrap_n _ (by omega), dLoop, wrapu64, show (d.length : Int) % 18446744073709551616 = (d.length : Int) by omega]
    refine Evn.pos (by omega) (Evn.bindc hG ?_)
    by_cases c : valL 0 (s.take w) < (d.length : Int)
    · rw [if_pos c]
      refine Evn.neg (by show ¬ valL 0 (s.take w) ≥ (d.length : Int); omega) (Evn.pos v0 (Evn.pos c (Evn.pos (by omega) ?_)))
      exact ih _ (s.drop w) (i + 1) (by omega) (by simp; omega) (hu.snoc (hd _ (rd_mem d _ v0 c))) (is01_drop h01 w) (by rw [List.length_drop]; omega)
    · rw [if_neg c]
      exact Evn.pos (by show valL 0 (s.take w) ≥ (d.length : Int); omega) (Evn.pure _)
theorem Dec_ev {b : List Int} (hb : Bytes b) (hl : b.length < 2000000) (n : Int) : Evn (fun k => dict_Decode.f k b n) (dDec b n) := by
  have hg := cgood_of hb (by omega)
  unfold dict_Decode.f
  by_cases c : n < 0 ∨ 65536 < n
  · have hj : Evn (fun k => dict_Decode.j0 k b n true) (dDec b n) := by
      refine Evn.round ?_
      simp only [dict_Decode.j0]
      rw [show dDec b n = ([], 1) from if_pos c]
      exact Evn.pos (by trivial) (Evn.pure _)
    by_cases c1 : n < 0
    · exact Evn.pos c1 hj
    · rw [decide_eq_true (show n > 65536 by omega)]
      exact Evn.neg c1 hj
  · rw [decide_eq_false (show ¬ n > 65536 by omega)]
    refine Evn.neg (by omega) (Evn.round ?_)
    simp only [dict_Decode.j0]
    obtain ⟨n', rfl⟩ := Int.eq_ofNat_of_zero_le (show 0 ≤ n by omega)
    have hN : cursor_New.f b = some b := by
      unfold cursor_New.f
      rw [if_pos hg]
    have hV : cursor_Cursor_Varint.f b = some ((cVarint b).1, (cVarint b).2.2, (cVarint b).2.1) := by
      unfold cursor_Cursor_Varint.f
      rw [if_pos hg]
    refine Evn.neg (by decide) (Evn.bindc hN (Evn.bindc hV ?_))
    unfold dDec
    rw [if_neg c]
    rcases vread_cases b hb with ⟨u, t, hu, hbe, e⟩ | he
    · have htb : Bytes t := fun x hx => hb x (by rw [hbe]; exact List.mem_append.2 (.inr hx))
      have htl : t.length < 2000000 := by
        have := congrArg List.length hbe
        rw [List.length_append] at this
        omega
      rw [e]
      simp only
      rw [wrapu64, show (n' : Int) % 18446744073709551616 = (n' : Int) by omega, if_pos trivial]
      refine Evn.pos trivial ?_
      by_cases c2 : (n' : Int) < (u : Int)
      · rw [if_pos c2]
        exact Evn.pos c2 (Evn.pure _)
      · rw [if_neg c2, Int.toNat_natCast, Int.toNat_natCast]
        have hD := Dict_loop u [] t 0 (by omega) htb (by omega) (by simp; omega)
        rw [Nat.zero_add] at hD
        refine Evn.neg c2 (Evn.bind (show Evn (fun k => dict_dictionary.f k t (u : Int)) _ from hD) ?_)
        generalize hT : dictP u [] t = T
        unfold dTail
        by_cases c3 : T.2.1 = 0
        · obtain ⟨f1, f2, f3, f4⟩ := dictP_facts u [] t htb (fun x hx => by cases hx) (by rw [hT]; exact c3)
          rw [hT] at f1 f2 f3 f4
          rw [List.length_nil, Nat.zero_add] at f1
          rw [if_pos c3]
          have hcr := cgood_of (b := T.2.2) f3 (by omega)
          have hL : cursor_Cursor_Left.f T.2.2 = some ((T.2.2.length : Int), T.2.2) := by unfold cursor_Cursor_Left.f; rw [if_pos hcr]
          have hw := wD_le T.1.length (by omega)
          have hm : n' * wD T.1.length ≤ 65536 * 16 := Nat.mul_le_mul (by omega) hw
          have hmi : (n' : Int) * (wD T.1.length : Int) = ((n' * wD T.1.length : Nat) : Int) := (Int.natCast_mul _ _).symm
          refine Evn.pos c3 (Evn.bindc (dwidth_f T.1.length (by omega)) (Evn.bindc hL ?_))
          simp only
          rw [hmi, wrap64_id (n := ((n' * wD T.1.length : Nat) : Int)) (by omega) (by omega), wrap64_id (n := 8 * (T.2.2.length : Int)) (by omega) (by omega)]
          unfold dRest
          by_cases c4 : 8 * T.2.2.length < n' * wD T.1.length
          · rw [if_pos c4]
            exact Evn.pos (by omega) (Evn.pure _)
          · rw [if_neg c4]
            refine Evn.neg (by omega) (Evn.bindc hL (Evn.bindc (a := (T.2.2, 0, [])) (by unfold cursor_Cursor_Bytes.f; rw [if_pos hcr]; simp [cBytes, show ¬ (T.2.2.length : Int) < 0 by omega]) (Evn.bindc (a := unpack T.2.2) (by show bits_NewReader.f T.2.2 = _; unfold bits_NewReader.f; rw [if_pos ⟨f3, by omega⟩]) ?_)))
            exact pLoop hb (by omega) f2 (by omega) hw (by omega) n' [] (unpack T.2.2) 0 (by omega) rfl (fun x hx => by cases hx) (unpack_01 _) (by rw [unpack_length]; omega)
        · rw [if_neg c3]
          exact Evn.neg c3 (Evn.pure _)
    · rw [if_neg he]
      exact Evn.neg he (Evn.pure _)
end Go.Proofs.Ytfnnlcmfahadhaa.DicP
