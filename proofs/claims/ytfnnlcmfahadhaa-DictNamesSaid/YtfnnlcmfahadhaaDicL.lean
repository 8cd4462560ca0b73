/- dict's laws as plain lists: there and back, cut off, one byte more, one way alone. -/
import Derived.Test.YtfnnlcmfahadhaaDict
import Derived.Test.YtfnnlcmfahadhaaPx7
import Derived.Test.YtfnnlcmfahadhaaPx4
namespace Go.Proofs.Ytfnnlcmfahadhaa.DicP
open Go.RowKit Go.Proofs.Ytfnnlcmfahadhaa.P Go.Proofs.Ytfnnlcmfahadhaa.Kit Go.Proofs.Ytfnnlcmfahadhaa.Var Go.Proofs.YtfnnlcmfahadhaaW.PrintWords Go.Proofs.YtfnnlcmfahadhaaW.PrintLast Go.Proofs.YtfnnlcmfahadhaaW.PrintMore
set_option linter.unusedVariables false
set_option linter.unusedSimpArgs false

theorem same_ev (a b : List Int) (h : a.length < 140737488355328) : Evn (fun k => casketlaw10_same.f k a b) (decide (a = b)) := by
  unfold casketlaw10_same.f
  exact Evn.bind (Same5_ev a b h) (Evn.pure _)
theorem fixesB_cons (x : Int) (d : List Int) : fixesB (x :: d) = fixB 8 x ++ fixesB d := by simp [fixesB]
theorem placesB_cons (d : List Int) (x : Int) (l : List Int) : placesB d (x :: l) = bitsOf (wD d.length) (d.idxOf x : Int) ++ placesB d l := by simp [placesB]
theorem dictP_fixes (r : List Int) : ∀ (d out : List Int), U64 d → dictP d.length out (fixesB d ++ r) = (out ++ d, 0, r)
  | [], out, _ => by simp [dictP, fixesB]
  | x :: d, out, h => by
    have hx := h x List.mem_cons_self
    have h8 : (fixB 8 x).length = 8 := fixB_length x 8
    rw [List.length_cons, dictP, fixesB_cons, List.append_assoc, if_neg (by rw [List.length_append]; omega), List.take_left' h8, List.drop_left' h8, be_fixB, dictP_fixes r d _ (fun y hy => h y (List.mem_cons_of_mem _ hy)), List.append_assoc]
    rw [show (0 : Int) * 256 ^ 8 + x % 256 ^ 8 = x by rw [show (256 : Int) ^ 8 = 18446744073709551616 by decide]; omega]
    rfl
theorem dictP_short : ∀ (m : Nat) (out c : List Int), c.length < 8 * m → (dictP m out c).2.1 = 2
  | 0, _, _, h => by omega
  | m + 1, out, c, h => by
    rw [dictP]
    split
    · rfl
    · exact dictP_short m _ _ (by rw [List.length_drop]; omega)
theorem rd_idx {d : List Int} {x : Int} (h : x ∈ d) : rd d (d.idxOf x : Int) = x := by
  have h1 := List.idxOf_lt_length_of_mem h
  rw [rd_nat, List.getD_eq_getElem?_getD, List.getElem?_eq_getElem h1, Option.getD_some, List.getElem_idxOf]
theorem dLoop_places (b : List Int) {l : List Int} (hl : l.length ≤ 65536) (s : List Int) (t : List Int) : ∀ p : List Int, l = p ++ t → dLoop b (dictOf l) (wD (dictOf l).length) t.length p (placesB (dictOf l) t ++ s) = if dEncB l = b then (l, 0) else ([], 3) := by
  induction t with
  | nil =>
    intro p hp
    rw [List.append_nil] at hp
    subst hp
    rfl
  | cons x t ih =>
    intro p hp
    have hm : x ∈ dictOf l := (mem_dictOf l x).2 (by rw [hp]; simp)
    have hix := List.idxOf_lt_length_of_mem hm
    have hd := dict_len l
    have hw := wD_le (dictOf l).length (by omega)
    have h1 := idx_wD (n := (dictOf l).length) (by omega) hix
    have h2 := bl_lt' _ _ (by omega) h1
    have hbl := bitsOf_length (wD (dictOf l).length) ((dictOf l).idxOf x : Int)
    have hv : valL 0 (bitsOf (wD (dictOf l).length) ((dictOf l).idxOf x : Int)) = ((dictOf l).idxOf x : Int) := valL_of_bits (by omega) (by exact_mod_cast h2)
    rw [List.length_cons, dLoop, placesB_cons, List.append_assoc, List.take_left' hbl, List.drop_left' hbl, hv, if_pos (by omega), rd_idx hm]
    exact ih (p ++ [x]) (by rw [hp, List.append_assoc]; rfl)
theorem dDec_vn {u : Nat} {r : List Int} {n : Nat} (hu : u ≤ n) (hn : n ≤ 65536) : dDec (vn u ++ r) (n : Int) = dTail (vn u ++ r) n (dictP u [] r) := by
  unfold dDec
  rw [if_neg (by omega), cV_vn u r (by omega), if_pos rfl, if_neg (by show ¬ (n : Int) < (u : Int); omega), Int.toNat_natCast]
  rfl
theorem dec_enc {l : List Int} (hu : U64 l) (hl : l.length ≤ 65536) (t : List Int) : dDec (dEncB l ++ t) (l.length : Int) = if dEncB l = dEncB l ++ t then (l, 0) else ([], 3) := by
  have hd := dict_len l
  have hw := wD_le (dictOf l).length (by omega)
  have hP := placesB_length (dictOf l) l
  have hk := pack_length (placesB (dictOf l) l)
  have e : dEncB l ++ t = vn (dictOf l).length ++ (fixesB (dictOf l) ++ (pack (placesB (dictOf l) l) ++ t)) := by simp [dEncB]
  have h1 := dDec_vn (u := (dictOf l).length) (r := fixesB (dictOf l) ++ (pack (placesB (dictOf l) l) ++ t)) (n := l.length) hd hl
  rw [← e, dictP_fixes _ _ _ (dict_u64 hu), List.nil_append] at h1
  rw [h1]
  show dRest _ l.length (dictOf l) (pack (placesB (dictOf l) l) ++ t) = _
  unfold dRest
  rw [if_neg (by rw [List.length_append, hk, hP]; omega), unpack_append, unpack_pack (places_01 _ _), List.append_assoc]
  exact dLoop_places _ hl _ l [] rfl
theorem dec_back {l : List Int} (hu : U64 l) (hl : l.length ≤ 65536) : dDec (dEncB l) (l.length : Int) = (l, 0) := by
  have := dec_enc hu hl []
  rw [List.append_nil, if_pos rfl] at this
  exact this
theorem dec_more {l : List Int} (hu : U64 l) (hl : l.length ≤ 65536) (x : Int) : dDec (dEncB l ++ [x]) (l.length : Int) = ([], 3) := by
  rw [dec_enc hu hl, if_neg (fun h => by
    have := congrArg List.length h
    rw [List.length_append, List.length_singleton] at this
    omega)]
theorem dec_cut {l : List Int} (hu : U64 l) (hl : l.length ≤ 65536) (k : Nat) (hk : k < (dEncB l).length) : (dDec ((dEncB l).take k) (l.length : Int)).2 = 2 := by
  have hd := dict_len l
  have hw := wD_le (dictOf l).length (by omega)
  have hP := placesB_length (dictOf l) l
  have hkp := pack_length (placesB (dictOf l) l)
  have hF := fixesB_length (dictOf l)
  have e : dEncB l = vn (dictOf l).length ++ (fixesB (dictOf l) ++ pack (placesB (dictOf l) l)) := by simp [dEncB]
  rw [e, List.length_append, List.length_append, hF, hkp, hP] at hk
  rcases Nat.lt_or_ge k (vn (dictOf l).length).length with c | c
  · rw [e, List.take_append_of_le_length (by omega)]
    have h2 := cV_short (dictOf l).length k (by omega) c
    unfold dDec
    rw [if_neg (by omega), if_neg (by rw [h2]; decide)]
    exact h2
  · obtain ⟨j, rfl⟩ : ∃ j, k = (vn (dictOf l).length).length + j := ⟨k - (vn (dictOf l).length).length, by omega⟩
    rw [e, List.take_length_add_append, dDec_vn hd hl]
    rcases Nat.lt_or_ge j (8 * (dictOf l).length) with c2 | c2
    · have h3 := dictP_short (dictOf l).length [] ((fixesB (dictOf l) ++ pack (placesB (dictOf l) l)).take j) (by rw [List.length_take]; omega)
      unfold dTail
      rw [if_neg (by rw [h3]; decide)]
      exact h3
    · obtain ⟨i, rfl⟩ : ∃ i, j = (fixesB (dictOf l)).length + i := ⟨j - (fixesB (dictOf l)).length, by omega⟩
      rw [List.take_length_add_append, dictP_fixes _ _ _ (dict_u64 hu), List.nil_append]
      show (dRest _ l.length (dictOf l) ((pack (placesB (dictOf l) l)).take i)).2 = 2
      unfold dRest
      rw [if_pos (by rw [List.length_take, hkp, hP]; omega)]
theorem dLoop_cases (b : List Int) {d : List Int} (hd : U64 d) (w : Nat) : ∀ (m : Nat) (out s : List Int), is01 s → U64 out → dLoop b d w m out s = ([], 3) ∨ ∃ o, dLoop b d w m out s = (o, 0) ∧ dEncB o = b ∧ o.length = out.length + m ∧ U64 o
  | 0, out, s, _, hu => by
    rw [dLoop]
    split
    · next h => exact .inr ⟨out, rfl, h, rfl, hu⟩
    · exact .inl rfl
  | m + 1, out, s, h01, hu => by
    rw [dLoop]
    split
    · next h =>
      have hv := valL_bd (is01_take h01 w)
      rcases dLoop_cases b hd w m (out ++ [rd d (valL 0 (s.take w))]) (s.drop w) (is01_drop h01 w) (hu.snoc (hd _ (rd_mem d _ hv.1 h))) with h1 | ⟨o, h1, h2, h3, h4⟩
      · exact .inl h1
      · rw [List.length_append, List.length_singleton] at h3
        exact .inr ⟨o, h1, h2, by omega, h4⟩
    · exact .inl rfl
theorem dec_cases {b : List Int} (hb : Bytes b) (n : Int) : ((dDec b n).1 = [] ∧ (dDec b n).2 ≠ 0) ∨ ∃ o, dDec b n = (o, 0) ∧ dEncB o = b ∧ (o.length : Int) = n ∧ o.length ≤ 65536 ∧ U64 o := by
  by_cases c : n < 0 ∨ 65536 < n
  · left
    rw [show dDec b n = ([], 1) from if_pos c]
    exact ⟨rfl, by decide⟩
  · obtain ⟨n', rfl⟩ := Int.eq_ofNat_of_zero_le (show 0 ≤ n by omega)
    rcases vread_cases b hb with ⟨u, t, hu, hbe, e⟩ | he
    · have htb : Bytes t := fun x hx => hb x (by rw [hbe]; exact List.mem_append.2 (.inr hx))
      by_cases c2 : (n' : Int) < (u : Int)
      · left
        unfold dDec
        rw [if_neg c, e, if_pos rfl, if_pos c2]
        exact ⟨rfl, by decide⟩
      · rw [hbe, dDec_vn (by omega) (by omega), ← hbe]
        unfold dTail
        by_cases c3 : (dictP u [] t).2.1 = 0
        · obtain ⟨f1, f2, f3, f4⟩ := dictP_facts u [] t htb (fun x hx => by cases hx) c3
          rw [if_pos c3]
          unfold dRest
          split
          · exact .inl ⟨rfl, by decide⟩
          · rcases dLoop_cases b f2 (wD (dictP u [] t).1.length) n' [] (unpack (dictP u [] t).2.2) (unpack_01 _) (fun x hx => by cases hx) with h1 | ⟨o, h1, h2, h3, h4⟩
            · rw [h1]
              exact .inl ⟨rfl, by decide⟩
            · rw [List.length_nil, Nat.zero_add] at h3
              exact .inr ⟨o, h1, h2, by omega, by omega, h4⟩
        · rw [if_neg c3]
          exact .inl ⟨rfl, c3⟩
    · left
      unfold dDec
      rw [if_neg c, if_neg he]
      exact ⟨rfl, he⟩
theorem want_eq : dEncB [9, 9, 7] = [2, 0, 0, 0, 0, 0, 0, 0, 9, 0, 0, 0, 0, 0, 0, 0, 7, 32] := by
  have h1 : dictOf [9, 9, 7] = [9, 7] := by decide
  have h2 : vn 2 = [2] := vn_small 2 (by omega)
  have h3 : fixesB [9, 7] = [0, 0, 0, 0, 0, 0, 0, 9, 0, 0, 0, 0, 0, 0, 0, 7] := by decide +kernel
  have h4 : pack (placesB [9, 7] [9, 9, 7]) = [32] := by decide +kernel
  rw [dEncB, h1, h3, h4, show ([9, 7] : List Int).length = 2 from rfl, h2]
  rfl
theorem awake_ev : Evn (fun k => casketlaw10_awake.f k) true := by
  have hu : U64 [9, 9, 7] := by
    intro x hx
    simp at hx
    omega
  have hD := dec_back hu (by decide)
  have hE := Dec_ev (enc_by [9, 9, 7]) (by have := enc_len (l := [9, 9, 7]) (by decide); omega) (([9, 9, 7] : List Int).length : Int)
  rw [hD, want_eq] at hE
  have hF : dict_Encode.f [9, 9, 7] = some ([2, 0, 0, 0, 0, 0, 0, 0, 9, 0, 0, 0, 0, 0, 0, 0, 7, 32], 0) := by rw [Enc_f hu (by decide), dEnc_ok (by decide), want_eq]
  unfold casketlaw10_awake.f
  refine Evn.bindc rfl (Evn.bindc hF (Evn.bind hE (Evn.pos rfl (Evn.bind (Same1_self _ (by decide)) (Evn.pos rfl (Evn.pos rfl ?_))))))
  exact Evn.bind (same_ev _ _ (by decide)) (Evn.pure _)
end Go.Proofs.Ytfnnlcmfahadhaa.DicP
