/- For all lists of up to 300 numbers and every mask: what numbers are says nothing but in the dictionary. No condition. -/
import Derived.Test.YtfnnlcmfahadhaaDicL
import Derived.Test.YtfnnlcmfahadhaaBits
import Derived.Test.YtfnnlcmfahadhaaPx14
namespace Go.Proofs.Ytfnnlcmfahadhaa.Pure
open Go.RowKit Go.Proofs.Ytfnnlcmfahadhaa.P Go.Proofs.Ytfnnlcmfahadhaa.Kit Go.Proofs.Ytfnnlcmfahadhaa.Var Go.Proofs.Ytfnnlcmfahadhaa.DicP Go.Proofs.YtfnnlcmfahadhaaW.PrintWords Go.Proofs.YtfnnlcmfahadhaaW.PrintLast Go.Proofs.YtfnnlcmfahadhaaW.PrintMore
set_option linter.unusedVariables false
set_option linter.unusedSimpArgs false
def xm (m x : Int) : Int := Go.bits .xor .u64 x m
theorem xm_nat {m x : Int} (hm : 0 ≤ m ∧ m ≤ 18446744073709551615) (hx : 0 ≤ x ∧ x ≤ 18446744073709551615) : xm m x = ((x.toNat ^^^ m.toNat : Nat) : Int) := by
  obtain ⟨a, rfl⟩ := Int.eq_ofNat_of_zero_le hx.1
  obtain ⟨b, rfl⟩ := Int.eq_ofNat_of_zero_le hm.1
  exact k64_xor_nat a b (by omega) (by omega)
theorem xm_u64 {m x : Int} (hm : 0 ≤ m ∧ m ≤ 18446744073709551615) (hx : 0 ≤ x ∧ x ≤ 18446744073709551615) : 0 ≤ xm m x ∧ xm m x ≤ 18446744073709551615 := by
  rw [xm_nat hm hx]
  have := Nat.xor_lt_two_pow (n := 64) (show x.toNat < 2 ^ 64 by omega) (show m.toNat < 2 ^ 64 by omega)
  omega
theorem xm_inj {m x y : Int} (hm : 0 ≤ m ∧ m ≤ 18446744073709551615) (hx : 0 ≤ x ∧ x ≤ 18446744073709551615) (hy : 0 ≤ y ∧ y ≤ 18446744073709551615) (h : xm m x = xm m y) : x = y := by
  rw [xm_nat hm hx, xm_nat hm hy] at h
  have h1 : x.toNat ^^^ m.toNat = y.toNat ^^^ m.toNat := by exact_mod_cast h
  have h2 := congrArg (· ^^^ m.toNat) h1
  simp only [Nat.xor_assoc, Nat.xor_self, Nat.xor_zero] at h2
  omega
section
variable {f : Int → Int} {m : Int}
theorem add_map {d : List Int} {x : Int} (hf : ∀ y ∈ d, f x = f y → x = y) : addV (d.map f) (f x) = (addV d x).map f := by
  unfold addV
  by_cases c : x ∈ d
  · rw [if_pos c, if_pos (List.mem_map_of_mem c)]
  · rw [if_neg c, if_neg (fun h => by
      obtain ⟨y, hy, e⟩ := List.mem_map.1 h
      exact c (hf y hy e.symm ▸ hy))]
    simp
theorem addV_mem {d : List Int} {x y : Int} (h : y ∈ addV d x) : y ∈ d ∨ y = x := by
  unfold addV at h
  split at h
  · exact .inl h
  · simpa using h
theorem fold_map (l : List Int) : ∀ d : List Int, (∀ x ∈ d ++ l, ∀ y ∈ d ++ l, f x = f y → x = y) → (l.map f).foldl addV (d.map f) = (l.foldl addV d).map f := by
  induction l with
  | nil => intro d _; rfl
  | cons x l ih =>
    intro d h
    rw [List.map_cons, List.foldl_cons, List.foldl_cons, add_map (fun y hy e => h x (by simp) y (by simp [hy]) e)]
    refine ih _ (fun a ha b hb e => h a ?_ b ?_ e)
    · rcases List.mem_append.1 ha with h1 | h1
      · rcases addV_mem h1 with h2 | h2
        · simp [h2]
        · simp [h2]
      · simp [h1]
    · rcases List.mem_append.1 hb with h1 | h1
      · rcases addV_mem h1 with h2 | h2
        · simp [h2]
        · simp [h2]
      · simp [h1]
theorem dict_map (l : List Int) (h : ∀ x ∈ l, ∀ y ∈ l, f x = f y → x = y) : dictOf (l.map f) = (dictOf l).map f := fold_map l [] (by simpa using h)
theorem idx_map (x : Int) : ∀ d : List Int, (∀ y ∈ d, f x = f y → x = y) → (d.map f).idxOf (f x) = d.idxOf x
  | [], _ => rfl
  | y :: d, h => by
    rw [List.map_cons, List.idxOf_cons, List.idxOf_cons]
    by_cases c : y = x
    · subst c
      simp
    · have c2 : ¬ f y = f x := fun e => c (h y List.mem_cons_self e.symm).symm
      rw [idx_map x d (fun z hz => h z (List.mem_cons_of_mem _ hz))]
      rw [show (f y == f x) = false by simpa using c2, show (y == x) = false by simpa using c]
theorem places_map (d : List Int) : ∀ l : List Int, (∀ x ∈ l, ∀ y ∈ d, f x = f y → x = y) → placesB (d.map f) (l.map f) = placesB d l
  | [], _ => rfl
  | x :: l, h => by
    rw [List.map_cons, placesB_cons, placesB_cons, List.length_map, idx_map x d (fun y hy => h x List.mem_cons_self y hy), places_map d l (fun z hz => h z (List.mem_cons_of_mem _ hz))]
end
theorem mem_take_succ (l : List Int) (j : Nat) (h : j < l.length) (x : Int) : x ∈ l.take (j + 1) ↔ x ∈ l.take j ∨ x = rd l (j : Int) := by
  rw [List.take_add_one, List.getElem?_eq_getElem h, Option.toList_some, rd_nat, List.getD_eq_getElem?_getD, List.getElem?_eq_getElem h, Option.getD_some, List.mem_append, List.mem_singleton]
theorem first_loop {l a b : List Int} {n i : Nat} (hi : i < l.length) (hl : l.length ≤ 300) {r : Bool}
    (hE : Evn (fun k => casketlaw10_DictNames.l1 k l true a b (if rd l (i : Int) ∉ l.take i then wrap64 ((n : Int) + 1) else (n : Int)) ((i + 1 : Nat) : Int)) r) (d : Nat) : ∀ j : Nat, j + d = i → Evn (fun k => casketlaw10_DictNames.l2 k l true a b (n : Int) (i : Int) (decide (rd l (i : Int) ∉ l.take j)) (j : Int)) r := by
  induction d with
  | zero =>
    intro j hj
    obtain rfl : j = i := by omega
    refine Evn.round ?_
    simp only [casketlaw10_DictNames.l2]
    refine Evn.neg (by omega) ?_
    rw [wrap_n j (by omega)]
    by_cases c : rd l (j : Int) ∉ l.take j
    · rw [if_pos c] at hE
      exact Evn.pos (by simpa using c) hE
    · rw [if_neg c] at hE
      exact Evn.neg (by simpa using c) hE
  | succ d ih =>
    intro j hj
    have h1 := ih (j + 1) (by omega)
    have hm := mem_take_succ l j (by omega) (rd l (i : Int))
    refine Evn.round ?_
    simp only [casketlaw10_DictNames.l2]
    refine Evn.pos (by omega) ?_
    rw [wrap_n j (by omega)]
    by_cases c : rd l (i : Int) ∉ l.take j
    · refine Evn.pos (by simpa using c) (Evn.pos (by omega) (Evn.pos (by omega) (Evn.pos (by omega) (Evn.pos (by omega) ?_))))
      have e : decide (rd l (i : Int) ∉ l.take (j + 1)) = (rd l (j : Int) != rd l (i : Int)) := by
        by_cases c2 : rd l (j : Int) = rd l (i : Int)
        · have hh := hm.2 (.inr c2.symm)
          simp [hh, c2]
        · have hh : ¬ rd l (i : Int) ∈ l.take (j + 1) := fun h => by
            rcases hm.1 h with h | h
            · exact c h
            · exact c2 h.symm
          simp [hh, c2]
      rw [← e]
      exact h1
    · have e : decide (rd l (i : Int) ∉ l.take (j + 1)) = false := by
        have hh := hm.2 (.inl (by simpa using c))
        simp [hh]
      rw [e] at h1
      exact Evn.neg (by simpa using c) h1
theorem vn_head {n : Nat} (h : n ≤ 300) : (vn n).length = if 127 < n then 2 else 1 := by
  by_cases c : 127 < n
  · rw [if_pos c, vn_big n (by omega), vn_small (n / 128) (by omega)]
    rfl
  · rw [if_neg c, vn_small n (by omega)]
    rfl
theorem names_end {l a b F G P : List Int} {n : Nat} (hn : n = (dictOf l).length) (h3 : n ≤ 300) (hF : F.length = 8 * n) (hG : G.length = 8 * n) (hP : P.length ≤ 700000) (ha : a = vn n ++ F ++ P) (hb : b = vn n ++ G ++ P) : Evn (fun k => casketlaw10_DictNames.l1 k l true a b (n : Int) (l.length : Int)) true := by
  have hv := vn_head h3
  have la : a.length = (vn n).length + 8 * n + P.length := by rw [ha, List.length_append, List.length_append, hF]
  have lb : b.length = (vn n).length + 8 * n + P.length := by rw [hb, List.length_append, List.length_append, hG]
  have ta : a.take (vn n).length = vn n := by rw [ha, List.append_assoc, List.take_left]
  have tb : b.take (vn n).length = vn n := by rw [hb, List.append_assoc, List.take_left]
  have da : a.drop ((vn n).length + 8 * n) = P := by rw [ha]; exact List.drop_left' (by rw [List.length_append, hF])
  have db : b.drop ((vn n).length + 8 * n) = P := by rw [hb]; exact List.drop_left' (by rw [List.length_append, hG])
  refine Evn.round ?_
  simp only [casketlaw10_DictNames.l1]
  refine Evn.neg (by omega) ?_
  by_cases c : 127 < n
  · rw [if_pos c] at hv
    rw [hv] at la lb ta tb da db
    have e : wrap64 (2 + wrap64 (8 * (n : Int))) = ((2 + 8 * n : Nat) : Int) := by
      rw [wrap64_id (n := 8 * (n : Int)) (by omega) (by omega), wrap64_id (by omega) (by omega)]
      omega
    rw [e, Int.toNat_natCast, ta, tb, da, db]
    exact Evn.pos (by omega) (Evn.pos (by trivial) (Evn.pos (by omega) (Evn.pos (by omega) (Evn.pos (by omega) (Evn.bind (Same1_self _ (by omega)) (Evn.pos (by trivial) (Evn.pos (by omega) (Evn.pos (by omega) (Evn.bind (Same1_self _ (by omega)) (Evn.pure _))))))))))
  · rw [if_neg c] at hv
    rw [hv] at la lb ta tb da db
    have e : wrap64 (1 + wrap64 (8 * (n : Int))) = ((1 + 8 * n : Nat) : Int) := by
      rw [wrap64_id (n := 8 * (n : Int)) (by omega) (by omega), wrap64_id (by omega) (by omega)]
      omega
    rw [e, Int.toNat_natCast, ta, tb, da, db]
    exact Evn.neg (by omega) (Evn.pos (by trivial) (Evn.pos (by omega) (Evn.pos (by omega) (Evn.pos (by omega) (Evn.bind (Same1_self _ (by omega)) (Evn.pos (by trivial) (Evn.pos (by omega) (Evn.pos (by omega) (Evn.bind (Same1_self _ (by omega)) (Evn.pure _))))))))))
theorem count_loop {l a b : List Int} (h3 : l.length ≤ 300) (hE : Evn (fun k => casketlaw10_DictNames.l1 k l true a b ((dictOf l).length : Int) (l.length : Int)) true) (d : Nat) : ∀ i : Nat, i + d = l.length → Evn (fun k => casketlaw10_DictNames.l1 k l true a b ((dictOf (l.take i)).length : Int) (i : Int)) true := by
  induction d with
  | zero =>
    intro i hi
    obtain rfl : i = l.length := by omega
    rw [List.take_length]
    exact hE
  | succ d ih =>
    intro i hi
    have h1 := ih (i + 1) (by omega)
    have hdl := dictOf_len l i (by omega)
    rw [dictOf_take l i (by omega)] at h1
    refine Evn.round ?_
    simp only [casketlaw10_DictNames.l1]
    refine Evn.pos (by omega) ?_
    have h2 := first_loop (l := l) (a := a) (b := b) (n := (dictOf (l.take i)).length) (i := i) (by omega) h3 (r := true) ?_ i 0 (by omega)
    · rw [show decide (rd l (i : Int) ∉ l.take 0) = true from by simp] at h2
      exact h2
    · by_cases c : rd l (i : Int) ∉ l.take i
      · rw [if_pos c, wrap_n _ (by omega)]
        unfold addV at h1
        rw [if_neg (fun h => c ((mem_dictOf _ _).1 h)), List.length_append, List.length_singleton] at h1
        exact h1
      · rw [if_neg c]
        unfold addV at h1
        rw [if_pos ((mem_dictOf _ _).2 (by simpa using c))] at h1
        exact h1
theorem names_loop {l : List Int} {m : Int} (hu : U64 l) (h3 : l.length ≤ 300) (hm : 0 ≤ m ∧ m ≤ 18446744073709551615) (t : List Int) : ∀ p : List Int, l = p ++ t → Evn (fun k => casketlaw10_DictNames.l0 k l m true (p.map (xm m)) (p.length : Int)) true := by
  induction t with
  | nil =>
    intro p hp
    rw [List.append_nil] at hp
    subst hp
    have hinj : ∀ x ∈ l, ∀ y ∈ l, xm m x = xm m y → x = y := fun x hx y hy e => xm_inj hm (hu x hx) (hu y hy) e
    have hu2 : U64 (l.map (xm m)) := fun y hy => by
      obtain ⟨x, hx, rfl⟩ := List.mem_map.1 hy
      exact xm_u64 hm (hu x hx)
    have hdm := dict_map (f := xm m) l hinj
    have hpm := places_map (f := xm m) (dictOf l) l (fun x hx y hy e => hinj x hx y ((mem_dictOf l y).1 hy) e)
    have hml : (l.map (xm m)).length = l.length := List.length_map _
    have hdl := dict_len l
    have hE1 : dict_Encode.f l = some (dEncB l, 0) := by rw [Enc_f hu (by omega), dEnc_ok (by omega)]
    have hE2 : dict_Encode.f (l.map (xm m)) = some (dEncB (l.map (xm m)), 0) := by rw [Enc_f hu2 (by omega), dEnc_ok (by omega)]
    have hb : dEncB (l.map (xm m)) = vn (dictOf l).length ++ fixesB ((dictOf l).map (xm m)) ++ pack (placesB (dictOf l) l) := by
      rw [dEncB, hdm, List.length_map, hpm]
    have hlen := enc_len (l := l) (by omega)
    have hel : (dEncB l).length = (dEncB (l.map (xm m))).length := by
      rw [hb, dEncB]
      simp only [List.length_append, fixesB_length, List.length_map]
    have hpos : 1 ≤ (dEncB l).length := by
      have := vn_pos (dictOf l).length
      rw [dEncB, List.length_append, List.length_append]
      omega
    have hPl : (pack (placesB (dictOf l) l)).length ≤ 700000 := by
      rw [dEncB, List.length_append, List.length_append] at hlen
      omega
    have h1 := names_end (l := l) (n := (dictOf l).length) rfl (by omega) (F := fixesB (dictOf l)) (G := fixesB ((dictOf l).map (xm m))) (P := pack (placesB (dictOf l) l)) (fixesB_length _) (by rw [fixesB_length, List.length_map]) hPl (show dEncB l = _ from rfl) hb
    have h2 := count_loop h3 h1 l.length 0 (by omega)
    refine Evn.round ?_
    simp only [casketlaw10_DictNames.l0]
    refine Evn.neg (by omega) (Evn.bindc hE1 (Evn.bindc hE2 (Evn.pos rfl (Evn.pos rfl (Evn.pos (by show ((dEncB l).length : Int) = _; rw [hel]) (Evn.round ?_))))))
    simp only [casketlaw10_DictNames.j1]
    refine Evn.neg ?_ h2
    rw [beq_iff_eq]
    omega
  | cons x t ih =>
    intro p hp
    have hll : l.length = p.length + (t.length + 1) := by rw [hp, List.length_append, List.length_cons]
    have hr : rd l (p.length : Int) = x := by
      rw [hp]
      exact rd_mid p x t _ rfl
    have h1 := ih (p ++ [x]) (by rw [hp, List.append_assoc]; rfl)
    rw [List.length_append, List.length_singleton, List.map_append, List.map_singleton] at h1
    refine Evn.round ?_
    simp only [casketlaw10_DictNames.l0, hr]
    rw [wrap_n _ (by omega)]
    exact Evn.pos (by omega) (Evn.pos (by omega) (Evn.pos (by rw [List.length_map]; omega) h1))
theorem DictNames : casketlaw10_DictNames.Pure := by
  intro l m hm h8 hl h1
  have hu := u64_of hl
  have hmm := wfu64 h1
  refine Evn.get (g := fun k => casketlaw10_DictNames.f k l m) ?_
  unfold casketlaw10_DictNames.f
  refine Evn.bind awake_ev ?_
  by_cases c0 : (l.length : Int) > 300
  · exact Evn.pos c0 (Evn.pure _)
  · exact Evn.neg c0 (names_loop hu (by omega) (by omega) l [] rfl)
end Go.Proofs.Ytfnnlcmfahadhaa.Pure
