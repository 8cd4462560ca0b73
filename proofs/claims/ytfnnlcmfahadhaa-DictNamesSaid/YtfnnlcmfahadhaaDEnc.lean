/- dict.Encode as a pure function, and its contract: it counts in a map. -/
import Derived.Maps.OwnSet
import Derived.Maps.AppendAt
import Derived.Test.YtfnnlcmfahadhaaBitSW
import Derived.Test.YtfnnlcmfahadhaaFix
import Derived.Test.YtfnnlcmfahadhaaVar
import Derived.WalkMore
import Derived.Test.YtfnnlcmfahadhaaPx1
import Derived.Test.YtfnnlcmfahadhaaPx3
import Derived.Test.YtfnnlcmfahadhaaPx2
namespace Go.Proofs.Ytfnnlcmfahadhaa.P
open Go.RowKit Go.Maps Go.Proofs.Ytfnnlcmfahadhaa.Kit Go.Proofs.Ytfnnlcmfahadhaa.Var Go.Proofs.YtfnnlcmfahadhaaW.PrintWords Go.Proofs.YtfnnlcmfahadhaaW.PrintLast Go.Proofs.YtfnnlcmfahadhaaW.PrintMore
attribute [local go_sem] max2_int min2_int max_two min_two
set_option linter.unusedVariables false
set_option linter.unusedSimpArgs false

def addV (d : List Int) (v : Int) : List Int := if v ∈ d then d else d ++ [v]
/-- The different numbers, in the order in which they come first. -/
def dictOf (l : List Int) : List Int := l.foldl addV []
def wD (n : Nat) : Nat := Lib.bitLen (max n 1 - 1)
def fixesB (d : List Int) : List Int := d.flatMap (fixB 8)
def placesB (d l : List Int) : List Int := l.flatMap fun v => bitsOf (wD d.length) (d.idxOf v : Int)
def dEncB (l : List Int) : List Int := vn (dictOf l).length ++ fixesB (dictOf l) ++ pack (placesB (dictOf l) l)
def dEnc (l : List Int) : List Int × Int := if 65536 < l.length then ([], 4) else (dEncB l, 0)
def dict_Encode.f (l : List Int) : Option (List Int × Int) := if (∀ x ∈ l, 0 ≤ x ∧ x ≤ 18446744073709551615) ∧ l.length < 140737488355328 then some (dEnc l) else none
theorem addV_len (d : List Int) (v : Int) : (addV d v).length ≤ d.length + 1 := by
  unfold addV
  split
  · omega
  · simp
theorem dictOf_snoc (l : List Int) (v : Int) : dictOf (l ++ [v]) = addV (dictOf l) v := by simp [dictOf, List.foldl_append]
theorem dictOf_take (l : List Int) (i : Nat) (h : i < l.length) : dictOf (l.take (i + 1)) = addV (dictOf (l.take i)) (rd l (i : Int)) := by
  rw [List.take_add_one, List.getElem?_eq_getElem h, Option.toList_some, dictOf_snoc, rd_nat, List.getD_eq_getElem?_getD, List.getElem?_eq_getElem h, Option.getD_some]
theorem dictOf_len (l : List Int) : ∀ i, i ≤ l.length → (dictOf (l.take i)).length ≤ i
  | 0, _ => by simp [dictOf]
  | i + 1, h => by
    rw [dictOf_take l i h]
    have := dictOf_len l i (by omega)
    have := addV_len (dictOf (l.take i)) (rd l (i : Int))
    omega
theorem fixesB_length (d : List Int) : (fixesB d).length = 8 * d.length := by
  induction d with
  | nil => rfl
  | cons x d ih =>
    rw [show fixesB (x :: d) = fixB 8 x ++ fixesB d by simp [fixesB], List.length_append, fixB_length, ih, List.length_cons]
    omega
theorem fixesB_snoc (d : List Int) (x : Int) : fixesB (d ++ [x]) = fixesB d ++ fixB 8 x := by simp [fixesB]
theorem wD_le (n : Nat) (h : n ≤ 65536) : wD n ≤ 16 := Lib.bitLen_le _ _ (by omega) (by omega)
theorem bl_lt' (n : Nat) : ∀ w, n < 18446744073709551616 → Lib.bitLen n ≤ w → n < 2 ^ w := by
  induction n using Nat.strongRecOn with
  | _ n ih =>
    intro w hn h
    rcases Nat.eq_zero_or_pos n with rfl | h0
    · exact Nat.two_pow_pos w
    · rw [Lib.bitLen_half n (by omega) hn] at h
      obtain ⟨m, rfl⟩ : ∃ m, w = m + 1 := ⟨w - 1, by omega⟩
      have := ih (n / 2) (by omega) m (by omega) (by omega)
      rw [Nat.pow_succ]
      omega
theorem idx_wD {n i : Nat} (hn : n ≤ 65536) (hi : i < n) : Lib.bitLen i ≤ wD n := by
  have h1 := bl_lt' (max n 1 - 1) (wD n) (by omega) (Nat.le_refl _)
  exact Lib.bitLen_le _ _ (by have := wD_le n hn; omega) (by omega)
theorem dput_f {s : List Int} {n i : Nat} (hn : n ≤ 65536) (hi : i < n) (hs : s.length + 64 < 16777216) : bits_Writer_Put.f s (i : Int) (wD n : Int) = some (0, s ++ bitsOf (wD n) (i : Int)) := by
  have h1 := idx_wD hn hi
  have h2 := wD_le n hn
  unfold bits_Writer_Put.f
  rw [if_pos ⟨hs, by omega, by omega⟩]
  unfold wPut
  rw [if_neg (by rw [Int.toNat_natCast]; omega), Int.toNat_natCast]
theorem dwidth_f (n : Nat) (h : n ≤ 65536) : dict_width.f (n : Int) = some (wD n : Int) := by
  have e : IntKind.u64.wrap (wrap64 (mx (n : Int) 1 - 1)) = ((max n 1 - 1 : Nat) : Int) := by
    unfold mx
    rw [wrapu64]
    split
    · rw [wrap64_id (by omega) (by omega)]
      omega
    · rw [wrap64_id (by omega) (by omega)]
      omega
  unfold dict_width.f bits_Width.f bits_Len64.f
  rw [e, if_pos ⟨by omega, by omega⟩]
  simp [wD]
theorem placesB_length (d l : List Int) : (placesB d l).length = l.length * wD d.length := by
  induction l with
  | nil => simp [placesB]
  | cons x l ih =>
    rw [show placesB d (x :: l) = bitsOf (wD d.length) (d.idxOf x : Int) ++ placesB d l by simp [placesB], List.length_append, bitsOf_length, ih, List.length_cons, Nat.add_mul]
    omega
theorem placesB_take (d l : List Int) (i : Nat) (h : i < l.length) : placesB d (l.take (i + 1)) = placesB d (l.take i) ++ bitsOf (wD d.length) (d.idxOf (rd l (i : Int)) : Int) := by
  rw [List.take_add_one, List.getElem?_eq_getElem h, Option.toList_some, rd_nat, List.getD_eq_getElem?_getD, List.getElem?_eq_getElem h, Option.getD_some]
  unfold placesB
  rw [List.flatMap_append]
  simp only [List.flatMap_cons, List.flatMap_nil, List.append_nil]
theorem mem_dictOf (l : List Int) : ∀ x, x ∈ dictOf l ↔ x ∈ l := by
  have key : ∀ (l d : List Int) (x : Int), x ∈ l.foldl addV d ↔ x ∈ d ∨ x ∈ l := by
    intro l
    induction l with
    | nil => intro d x; simp
    | cons y l ih =>
      intro d x
      rw [List.foldl_cons, ih]
      unfold addV
      split
      · next h =>
        constructor
        · rintro (h1 | h1)
          · exact .inl h1
          · exact .inr (List.mem_cons_of_mem _ h1)
        · rintro (h1 | h1)
          · exact .inl h1
          · rcases List.mem_cons.1 h1 with rfl | h2
            · exact .inl h
            · exact .inr h2
      · simp [or_assoc]
  intro x
  simp [dictOf, key l [] x]
/-- What the map holds: each number's place. -/
def DictD (d : List Int) (D : DataW Unit) : Prop := (∀ x, Maps.has D (.int .u64 x) = decide (x ∈ d)) ∧ (∀ x ∈ d, D.atKey (.int .u64 x) (.lit (.int .i64 0)) = .lit (.int .i64 (d.idxOf x : Int))) ∧ Maps.size D = d.length
theorem DictD.nil : DictD [] (.map []) := ⟨fun x => by simp [Maps.has], ⟨fun x hx => absurd hx (by simp), rfl⟩⟩
theorem isKey (x : Int) : WideAt.IsKeyLit (.int .u64 x) := trivial
theorem DictD.snoc {d : List Int} {D : DataW Unit} (hT : Tidy D) (h : DictD d D) {x : Int} (hx : x ∉ d) : DictD (d ++ [x]) (D.put (.int .u64 x) (.lit (.int .i64 (d.length : Int)))) := by
  obtain ⟨h1, h2, h3⟩ := h
  refine ⟨fun y => ?_, fun y hy => ?_, ?_⟩
  · by_cases e : y = x
    · subst e
      rw [has_put_same hT.isMap (isKey _), decide_eq_true (by simp)]
    · rw [has_put_other (fun h => e (by injection h)), h1 y]
      simp [e]
  · by_cases e : y = x
    · subst e
      rw [atKey_put_same hT.isMap (isKey _), List.idxOf_append, if_neg hx]
      simp
    · rw [atKey_put_other (fun h => e (by injection h))]
      have hy' : y ∈ d := by simpa [e] using hy
      rw [h2 y hy', List.idxOf_append, if_pos hy']
  · rw [size_put hT, h1 x, decide_eq_false hx, h3]
    simp
section
variable {H : Type} {P : Program} {k : TypeId} {R : Value → Option (DataW H × List MemPlace)} {W W' : World} {b n : Nat} {D : DataW H}
theorem owns_at (h : W.ownsMap P k R b n D) (e : W'.heap[b]? = W.heap[b]?) : W'.ownsMap P k R b n D := by
  obtain ⟨es, clock, hb, r⟩ := h
  exact ⟨es, clock, e.trans hb, r⟩
theorem owns_below (h : W.ownsMap P k R b n D) (hb : Below W.heap.size W W') : W'.ownsMap P k R b n D := owns_at h (hb.block b h.lt)
theorem R_offmap {α : Type} {d : Kd α} {e base : Nat} {ok : Nat → Prop} {v : Value} {xs : List α} (h : d.R e W base ok v xs) (hm : W.ownsMap P k R b n D) : d.R e W base (fun k => ok k ∧ k ≠ b) v xs := by
  refine Kd.R_mono (Kd.R_bound h) (fun j hj => ⟨hj.1, ?_⟩)
  rintro rfl
  obtain ⟨q, hq, cells, hc⟩ := hj.2.2.2
  obtain ⟨es, clock, hb, r⟩ := hm
  rw [hb] at hc
  cases hc
theorem owns_grown {α : Type} {d : Kd α} {e base : Nat} {ok : Nat → Prop} {v : Value} {xs : List α} (hm : W.ownsMap P k R b n D) (h : d.R e W base ok v xs) (hg : W.grownBy W' v.ownBlock) : W'.ownsMap P k R b n D := by
  refine hm.kept hg (fun e1 => ?_)
  obtain ⟨cells, hc⟩ := Kd.R_typed h b e1.symm
  obtain ⟨es, clock, hb, r⟩ := hm
  rw [hb] at hc
  cases hc
end
theorem lawK : Keyed Try.prog 35 := int_keyed Try.underlying35
theorem zeroI (w : World) : (zeroValue 3).run Try.prog w = .ok (.int .i64 0) w := by kernel_rfl
theorem keyU {x : Int} (h : 0 ≤ x ∧ x ≤ 18446744073709551615) : keyOf Try.prog 35 (.int .u64 x) = some (.int .u64 x) := keyOf_int_mk Try.underlying35 (by simpa [Lit.wf, IntKind.min, IntKind.max, IntKind.signed, IntKind.bits] using h)
/-- What a look-up and the length come to. -/
theorem mapEqs {W : World} {b n : Nat} {d : List Int} {D : DataW Unit} (hm : W.ownsMap Try.prog 35 (plainElem Try.prog 3) b n D) (hD : DictD d D) {x : Int} (hx : 0 ≤ x ∧ x ≤ 18446744073709551615) (hxd : x ∈ d) :
    (Instr.lookup 37 (.map (some b)) (.int .u64 x) false).run Try.prog W = .ok (.int .i64 (d.idxOf x : Int)) W ∧ (Builtin.len_ #[37] 3 #[.map (some b)]).run Try.prog W = .ok (.int .i64 (d.length : Int)) W := by
  obtain ⟨c, hrun, hat, _⟩ := hm.lookup_int lawK Try.underlying37 Try.underlying3 (zeroI _) (keyU hx)
  refine ⟨?_, ?_⟩
  · rw [hD.2.1 x hxd] at hat
    injection hat with hat
    injection hat with _ hat
    rw [hrun, hat]
  · rw [hm.len Try.underlying37 3, hD.2.2]
set_option maxHeartbeats 1000000 in
set_option maxRecDepth 100000 in
theorem dict_Encode.calls (A0 : Option Addr) (c0 : Nat) (l0 : List Int) (r1 : List Int) (r2 : Int) (w : World) (hr0 : Kd.C (Kd.int .u64) w A0 l0.length l0) (hc0 : l0.length ≤ c0) (h : dict_Encode.f l0 = some (r1, r2)) :
    Calls Try.prog 9 #[.slice A0 l0.length c0] w fun e w' => ∃ v0_ : Value, e = .returned (.tuple #[v0_, .int .i64 r2]) ∧ Kd.R (Kd.int .u8) 5 w' w.heap.size (fun _ => True) v0_ r1 ∧ Below w.heap.size w w' := by
  unfold dict_Encode.f at h
  split at h
  case isFalse => cases h
  case isTrue hc =>
    injection h with h
    unfold dEnc at h
    obtain ⟨hu, hl⟩ := hc
    by_cases h65 : 65536 < l0.length
    · rw [if_pos h65] at h
      injection h with h1 h2
      subst h1 h2
      have c1 : decide (65536 < (l0.length : Int)) = true := decide_eq_true (by omega)
      have c2 : decide (65536 < l0.length) = true := decide_eq_true h65
      clear hr0 hc0 hu hl h65
      go_enter Try.func9, Try.ntmps9
      go_wp2
      go_ret2
      exact ⟨_, rfl, Kd.R_nil _ _ _ _ _, Below.refl _ _⟩
    · rw [if_neg h65] at h
      injection h with h1 h2
      subst h2
      have c1 : decide (65536 < (l0.length : Int)) = false := decide_eq_false (by omega)
      have c2 : decide (65536 < l0.length) = false := decide_eq_false h65
      have H := Aside0.mk h1
      have HR := Aside0.mk hr0
      have HU := Aside0.mk hu
      have HN := Aside0.mk (show l0.length ≤ 65536 ∧ l0.length ≤ c0 from ⟨by omega, hc0⟩)
      have hmm := @run_makeMap Try.prog
      have HM0 := Aside0.mk (World.ownsMap_made w Try.prog 35 (plainElem (H := Unit) Try.prog 3))
      clear hr0 hc0 hu hl h65 h1
      go_enter Try.func9, Try.ntmps9
      go_wp2
      clear hmm c1 c2
      go_loopg [5, 21] l0.length (fun kq v5 v21 W' => ∃ (i : Nat) (D : DataW Unit), v21 = .int .i64 (i : Int) ∧ kq = l0.length - i ∧ i ≤ l0.length ∧ Aside0 (W'.ownsMap Try.prog 35 (plainElem Try.prog 3) w.heap.size i D) ∧ Aside0 (DictD (dictOf (l0.take i)) D) ∧ Aside0 (Below w.heap.size w W') ∧ Aside0 (Kd.R (Kd.int .u8) 5 W' w.heap.size (fun _ => True) v5 (fixesB (dictOf (l0.take i)))))
      case atStart => exact ⟨0, _, rfl, rfl, Nat.zero_le _, HM0, ⟨DictD.nil⟩, ⟨below_alloc (Below.refl _ _) _⟩, ⟨Kd.R_nil _ _ _ _ _⟩⟩
      case round =>
        clear HM0
        obtain ⟨i, D, rfl, rfl, hi, HM, HD, HB, HO⟩ := hrel
        by_cases hlt : i < l0.length
        · have c3 : decide ((i : Int) < (l0.length : Int)) = true := decide_eq_true (by omega)
          have c4 : decide (i < l0.length) = true := decide_eq_true hlt
          obtain ⟨ad2, e2, hx⟩ := Kd.at_int HR.out (i : Int) (by omega) (by omega)
          subst e2
          rw [Int.toNat_natCast] at hx
          replace hx := (HB.out.cell (World.block_lt_of_cell? w _ hx)).trans hx
          have hx0 := HU.out _ (rd_mem l0 (i : Int) (by omega) (by omega))
          have HK := Aside0.mk (keyU hx0)
          have HX0 := Aside0.mk hx0
          have HT := Aside0.mk (HM.out.tidy lawK)
          have HDL := Aside0.mk (dictOf_len l0 i hi)
          have hsz := HD.out.2.2
          have hhas := HD.out.1 (rd l0 (i : Int))
          have HDT := Aside0.mk (dictOf_take l0 i hlt)
          have HW := Aside0.mk (show wrap64 ((i : Int) + 1) = ((i + 1 : Nat) : Int) from by have := HN.out; rw [wrap64_id (by omega) (by omega)]; omega)
          clear hx0
          obtain ⟨A5, q5, e5⟩ := Kd.R_slice HO.out
          subst e5
          by_cases hin : rd l0 (i : Int) ∈ dictOf (l0.take i)
          · rw [decide_eq_true hin] at hhas
            have HDT2 := Aside0.mk (HDT.out.trans (if_pos hin))
            clear hin HDT
            go_wp2_with (first
              | (at_lookup; (refine wpList_lookup_own_ok_int _ rfl _ _ 37 rfl 35 3 .i64 lawK Try.underlying37 Try.underlying3 (zeroI _) w.heap.size _ _ rfl HM.out _ _ rfl HK.out ?_; intro c hat hwc; rw [hhas]; clear hat hwc)))
            go_roundg (l0.length - (i + 1))
            case measure => exact (by have := HN.out; omega)
            case rel =>
              rw [HW.out]
              exact ⟨i + 1, D, rfl, rfl, hlt, ⟨HM.out.mono (Nat.le_succ _)⟩, ⟨by rw [HDT2.out]; exact HD.out⟩, HB, ⟨by rw [HDT2.out]; exact HO.out⟩⟩
          · rw [decide_eq_false hin] at hhas
            have HDT2 := Aside0.mk (HDT.out.trans (if_neg hin))
            have HDS := Aside0.mk (DictD.snoc HT.out HD.out hin)
            have HO1 := Aside0.mk (R_offmap HO.out HM.out)
            obtain ⟨kf, hkf⟩ := (Fix_ev (rd l0 (i : Int)) 8 (by decide)).get
            have HFX := Aside0.mk hkf
            have HFB := Aside0.mk (fixesB_length (dictOf (l0.take i)))
            have HFL := Aside0.mk (fixB_length (rd l0 (i : Int)) 8)
            have HFS := Aside0.mk (fixesB_snoc (dictOf (l0.take i)) (rd l0 (i : Int)))
            have HWF := Aside0.mk (show (Lit.int .i64 (((dictOf (l0.take i)).length : Nat) : Int)).wf = true from WalkArith.wf_i64 (by have := HDL.out; have := HN.out; constructor <;> omega))
            clear hin HDT hkf HO HD
            go_wp2_with (first
              | (at_lookup; (refine wpList_lookup_own_ok_int _ rfl _ _ 37 rfl 35 3 .i64 lawK Try.underlying37 Try.underlying3 (zeroI _) w.heap.size _ _ rfl HM.out _ _ rfl HK.out ?_; intro c hat hwc; rw [hhas]; clear hat hwc))
              | (at_len; refine wpList_len_own _ rfl _ 37 rfl 35 3 Try.underlying37 _ w.heap.size _ _ rfl HM.out ?_; rw [hsz])
              | (at_mapUpdate; refine wpList_mapUpdate_own _ rfl _ _ _ 37 rfl 35 3 lawK Try.underlying37 _ w.heap.size i _ rfl HM.out (by have := HN.out; unfold maxLen; omega) _ _ _ rfl rfl HK.out _ [] (plainElem_int Try.underlying3 HWF.out) ?_; intro w1 hown1 hgrow1; have HM1 := Aside0.mk hown1; have HO2 := Aside0.mk (Kd.R_grown HO1.out hgrow1 (fun k hk e => hk.2 (by injection e))); have HB1 := Aside0.mk (HB.out.grown hgrow1 HB.out.size (fun j hj => by injection hj with hj; omega)); clear hown1 hgrow1)
              | (go_at_call 15; refine (cursor_Fix.calls kf _ _ _ _ HFX.out).mono ?_; rintro e w4 ⟨v4, rfl, ho4, hb⟩; have HO4 := Aside0.mk (Kd.R_below HO2.out hb); have HB4 := Aside0.mk (below_step HB1.out hb); have HM4 := Aside0.mk (owns_below HM1.out hb); have HX4 := Aside0.mk ho4; clear hb ho4; obtain ⟨AX, qX, eX⟩ := Kd.R_slice HX4.out; subst eX)
              | ((with_reducible refine gate_builtin (b := .append) (xs := #[.tmp 38, .tmp 40]) rfl ?_); at_builtin; refine Kd.R_append_rows (Kd.int .u8) (w0 := w) w.heap.size rfl (.tmp 38) (.tmp 40) 24 5 (.int .u8 0) 1 rfl Try.underlying24 info5 rfl (by decide) (by omega) (.slice A5 (fixesB (dictOf (l0.take i))).length q5) (fixesB (dictOf (l0.take i))) (fixB 8 (rd l0 (i : Int))) AX _ qX (fun _ => True) (fun _ => False) rfl rfl (Kd.R_mono HO4.out (fun _ _ => trivial)) (Kd.R_reads' HX4.out).2.2 (fun _ _ h => h) (fun _ h => h.elim) (fun _ _ => trivial) HB4.out HB4.out.size (by have := HFL.out; have := HFB.out; have := HDL.out; have := HN.out; omega) ?_; intro v5 w5 ho5 hb5 hg5 hat5; have HO5 := Aside0.mk ho5; have HB5 := Aside0.mk hb5; have HM5 := Aside0.mk (owns_grown HM4.out HO4.out hg5); clear ho5 hb5 hg5 hat5))
            go_roundg (l0.length - (i + 1))
            case measure => exact (by have := HN.out; omega)
            case rel =>
              rw [HW.out]
              exact ⟨i + 1, _, rfl, rfl, hlt, HM5, ⟨by rw [HDT2.out]; exact HDS.out⟩, HB5, ⟨by rw [HDT2.out, HFS.out]; exact HO5.out⟩⟩
        · have c3 : decide ((i : Int) < (l0.length : Int)) = false := decide_eq_false (by omega)
          have c4 : decide (i < l0.length) = false := decide_eq_false hlt
          obtain rfl : i = l0.length := by omega
          have hel : l0.take l0.length = l0 := List.take_length
          rw [hel] at HD HO
          have HDL := Aside0.mk (show (dictOf l0).length ≤ 65536 from by have := dictOf_len l0 l0.length (Nat.le_refl _); rw [hel] at this; have := HN.out; omega)
          have hsz := HD.out.2.2
          obtain ⟨kf, hkf⟩ := (Append_nat [] (dictOf l0).length (by simp) (by have := HDL.out; omega)).get
          rw [List.nil_append] at hkf
          have HAP := Aside0.mk hkf
          have hwr : IntKind.u64.wrap ((dictOf l0).length : Int) = ((dictOf l0).length : Int) := by
            rw [wrapu64]
            have := HDL.out
            omega
          have HVL := Aside0.mk (vn_len10 (dictOf l0).length (by have := HDL.out; omega))
          have HFB := Aside0.mk (fixesB_length (dictOf l0))
          have HOM := Aside0.mk (R_offmap HO.out HM.out)
          clear hkf hel hi hlt HO
          obtain ⟨A5, q5, e5⟩ := Kd.R_slice HOM.out
          subst e5
          go_wp2_with (first
            | (at_len; (refine wpList_len_own _ rfl _ 37 rfl 35 3 Try.underlying37 _ w.heap.size _ _ rfl HM.out ?_; rw [hsz]))
            | (go_at_call 16; (try rw [hwr]); refine (varint_Append.calls kf _ _ ([] : List Int) _ _ _ (Kd.C_nil _ _) (Nat.le_refl _) HAP.out).mono ?_; rintro e w4 ⟨v4, rfl, ho4, hb⟩; have HX4 := Aside0.mk (Kd.R_below HOM.out hb); have HB4 := Aside0.mk (below_step HB.out hb); have HM4 := Aside0.mk (owns_below HM.out hb); have HO4 := Aside0.mk ho4; clear hb ho4)
            | ((with_reducible refine gate_builtin (b := .append) (xs := #[.tmp 46, .tmp 47]) rfl ?_); at_builtin; refine Kd.R_append_rows (Kd.int .u8) (w0 := w) w.heap.size rfl (.tmp 46) (.tmp 47) 24 5 (.int .u8 0) 1 rfl Try.underlying24 info5 rfl (by decide) (by omega) _ (vn (dictOf l0).length) (fixesB (dictOf l0)) A5 _ q5 (fun _ => True) (fun _ => False) rfl rfl (Kd.R_lower HO4.out (below_size HB.out)) (Kd.R_reads' HX4.out).2.2 (fun _ _ h => h) (fun _ h => h.elim) (fun _ _ => trivial) HB4.out HB4.out.size (by have := HVL.out; have := HFB.out; have := HDL.out; omega) ?_; intro v5 w5 ho5 hb5 hg5 hat5; have HO5 := Aside0.mk ho5; have HB5 := Aside0.mk hb5; have HM5 := Aside0.mk (owns_grown HM4.out HO4.out hg5); clear ho5 hb5 hg5 hat5))
          have HBX := Aside0.mk (IsS43.box (w0 := w5) (W := w5.alloc (.cells #[.slice none 0 0, .int .i64 0] 43)) (g := w5.heap.size) (MapKept.heap_alloc w5 _).1 (Nat.le_refl _))
          have HDI := Aside0.mk HD.out
          have HMEM := Aside0.mk (show ∀ x ∈ l0, x ∈ dictOf l0 from fun x hx => (mem_dictOf l0 x).2 hx)
          have HWF := Aside0.mk (dwidth_f (dictOf l0).length HDL.out)
          have HPL := Aside0.mk (show ∀ j, j ≤ l0.length → (placesB (dictOf l0) (l0.take j)).length ≤ 65536 * 16 from fun j hj => by
            rw [placesB_length, List.length_take]
            exact Nat.mul_le_mul (by have := HN.out; omega) (wD_le _ HDL.out))
          clear HM HB HD HAP HVL HOM HO4 HX4 HM4 HB4 hsz hwr c3 c4
          go_loopg [53] l0.length (fun kq v53 W' => ∃ j : Nat, v53 = .int .i64 (j : Int) ∧ kq = l0.length - j ∧ j ≤ l0.length ∧ Aside0 (IsS43 w5 W' w5.heap.size (placesB (dictOf l0) (l0.take j))) ∧ Aside0 (Below w5.heap.size w5 W'))
          case atStart => exact ⟨0, rfl, rfl, Nat.zero_le _, HBX, ⟨below_alloc (Below.refl _ _) _⟩⟩
          case round =>
            clear HBX
            obtain ⟨j, rfl, rfl, hj, HI, HB⟩ := hrel
            by_cases hlt : j < l0.length
            · have c3 : decide ((j : Int) < (l0.length : Int)) = true := decide_eq_true (by omega)
              have c4 : decide (j < l0.length) = true := decide_eq_true hlt
              obtain ⟨ad2, e2, hx⟩ := Kd.at_int HR.out (j : Int) (by omega) (by omega)
              subst e2
              rw [Int.toNat_natCast] at hx
              replace hx := (HB5.out.cell (World.block_lt_of_cell? w _ hx)).trans hx
              replace hx := (HB.out.cell (World.block_lt_of_cell? w5 _ hx)).trans hx
              have hx0 := HU.out _ (rd_mem l0 (j : Int) (by omega) (by omega))
              have hmem := HMEM.out _ (rd_mem l0 (j : Int) (by omega) (by omega))
              have HEQ := Aside0.mk (show ∀ W, Below w5.heap.size w5 W → _ from fun W hW => mapEqs (owns_at HM5.out (hW.block _ HM5.out.lt)) HDI.out hx0 hmem)
              have HIX := Aside0.mk (List.idxOf_lt_length_of_mem hmem)
              have HPF := Aside0.mk (dput_f (s := placesB (dictOf l0) (l0.take j)) HDL.out HIX.out (by have := HPL.out j hj; omega))
              rw [← placesB_take (dictOf l0) l0 j hlt] at HPF
              have HW := Aside0.mk (show wrap64 ((j : Int) + 1) = ((j + 1 : Nat) : Int) from by have := HN.out; rw [wrap64_id (by omega) (by omega)]; omega)
              have hwu : IntKind.u64.wrap (((dictOf l0).idxOf (rd l0 (j : Int)) : Nat) : Int) = (((dictOf l0).idxOf (rd l0 (j : Int)) : Nat) : Int) := by
                rw [wrapu64]
                have := HIX.out
                have := HDL.out
                omega
              clear hx0 hmem
              generalize (dictOf l0).idxOf (rd l0 (j : Int)) = p at *
              go_upto_region 19 with (fail)
              refine start_ (n := 9) (S := fun w' => (Instr.lookup 37 (.map (some w.heap.size)) (.int .u64 (rd l0 (j : Int))) false).run Try.prog w' = .ok (.int .i64 (p : Int)) w' ∧ (Builtin.len_ #[37] 3 #[.map (some w.heap.size)]).run Try.prog w' = .ok (.int .i64 ((dictOf l0).length : Int)) w') (ds := [8]) #[false, false, false, false, false, false, false, false, false] (by kernel_rfl) rfl rfl ⟨(HEQ.out _ (below_drew1 HB.out)).1, (HEQ.out _ (below_drew1 HB.out)).2⟩ (fun hHeld => ?_)
              refine pure_ (i := 0) (N := some 57) (v := ?_) (a' := ?_) #[true, false, false, false, false, false, false, false, false] rfl rfl (by kernel_rfl) (fun _ _ _ h => h) (Or.inl ⟨by rfl, ?_⟩) ?_ ?_
              rotate_left
              · intro w'
                go_simp
                with_reducible rfl
              rotate_left
              · simp only [Act.put, List.setIfInBounds_toArray, List.set_cons_zero, List.set_cons_succ, i64_w, i32_w]
                rfl
              refine pure_ (i := 1) (N := some 58) (v := ?_) (a' := ?_) #[true, true, false, false, false, false, false, false, false] rfl rfl (by kernel_rfl) (fun _ _ _ h => h) (Or.inl ⟨by rfl, ?_⟩) ?_ ?_
              rotate_left
              · intro w'
                go_simp
                with_reducible rfl
              rotate_left
              · simp only [Act.put, List.setIfInBounds_toArray, List.set_cons_zero, List.set_cons_succ, i64_w, i32_w]
                rfl
              refine pure_ (i := 2) (N := some 59) (v := ?_) (a' := ?_) #[true, true, true, false, false, false, false, false, false] rfl rfl (by kernel_rfl) (fun _ _ _ h => h) (Or.inl ⟨by rfl, ?_⟩) ?_ ?_
              rotate_left
              · intro w'
                go_simp
                with_reducible rfl
              rotate_left
              · simp only [Act.put, List.setIfInBounds_toArray, List.set_cons_zero, List.set_cons_succ, i64_w, i32_w]
                rfl
              refine pure_ (i := 5) (N := some 62) (v := ?_) (a' := ?_) #[true, true, true, false, false, true, false, false, false] rfl rfl (by kernel_rfl) (fun _ _ _ h => h) (Or.inl ⟨by rfl, ?_⟩) ?_ ?_
              rotate_left
              · intro w'
                go_simp
                with_reducible rfl
              rotate_left
              · simp only [Act.put, List.setIfInBounds_toArray, List.set_cons_zero, List.set_cons_succ, i64_w, i32_w]
                rfl
              refine take_ (i := 3) (N := some 60) (v := ?_) (a' := ?_) #[true, true, true, true, false, true, false, false, false] rfl rfl (by kernel_rfl) (fun _ _ _ h => h) (Or.inl ⟨by rfl, ?_⟩) hHeld ?_ ?_
              rotate_left
              · rintro w' ⟨s0, s1⟩
                go_simp
                with_reducible rfl
              rotate_left
              · simp only [Act.put, List.setIfInBounds_toArray, List.set_cons_zero, List.set_cons_succ, i64_w, i32_w]
                rfl
              refine pure_ (i := 4) (N := some 61) (v := ?_) (a' := ?_) #[true, true, true, true, true, true, false, false, false] rfl rfl (by kernel_rfl) (fun _ _ _ h => h) (Or.inl ⟨by rfl, ?_⟩) ?_ ?_
              rotate_left
              · intro w'
                go_simp
                with_reducible rfl
              rotate_left
              · simp only [Act.put, List.setIfInBounds_toArray, List.set_cons_zero, List.set_cons_succ, i64_w, i32_w]
                rfl
              refine take_ (i := 6) (N := some 63) (v := ?_) (a' := ?_) #[true, true, true, true, true, true, true, false, false] rfl rfl (by kernel_rfl) (fun _ _ _ h => h) (Or.inl ⟨by rfl, ?_⟩) hHeld ?_ ?_
              rotate_left
              · rintro w' ⟨s0, s1⟩
                go_simp
                with_reducible rfl
              rotate_left
              · simp only [Act.put, List.setIfInBounds_toArray, List.set_cons_zero, List.set_cons_succ, i64_w, i32_w]
                rfl
              refine one_ (i := 7) (N := some 64) #[true, true, true, true, true, true, true, true, false] rfl rfl (by kernel_rfl) (by decide) (fun K hK => ?_)
              refine goes_ Try.func18 (by kernel_rfl) rfl #[.int .i64 ((dictOf l0).length : Int)] (by rfl) rfl rfl (by simp only [List.map_toArray, List.map_cons, List.map_nil]; rfl) ?_
              with_reducible refine (dict_width.calls _ _ _ HWF.out).mono ?_
              rintro e w3 ⟨rfl, hb⟩
              refine ⟨_, rfl, ?_⟩
              have HB3 := Aside0.mk (below_step (below_drew1 HB.out) hb)
              have HI3 := Aside0.mk (IsS43.below HI.out.drew hb)
              clear hb
              refine hK.out _ _ ⟨(HEQ.out _ HB3.out).1, (HEQ.out _ HB3.out).2⟩ (fun hHeld => ?_)
              clear hK K
              refine norm_ (a' := ?_) ?_ ?_
              rotate_left
              · show Act.put _ (some 64) _ = _
                simp only [Act.put, List.setIfInBounds_toArray, List.set_cons_zero, List.set_cons_succ, i64_w, i32_w]
                rfl
              refine last_ (i := 8) (N := some 65) #[true, true, true, true, true, true, true, true, true] rfl rfl (by kernel_rfl) (by decide) (fun K hK => ?_)
              refine goes_ Try.func17 (by kernel_rfl) rfl #[.pointer (some ⟨w5.heap.size, 0, none⟩), .int .u64 (p : Int), .int .i64 (wD (dictOf l0).length : Int)] (by rfl) rfl rfl (by simp only [List.map_toArray, List.map_cons, List.map_nil]; rfl) ?_
              with_reducible refine (bits_Writer_Put.calls _ _ _ _ _ _ w5 _ HI3.out HB3.out HPF.out).mono ?_
              rintro e w4 ⟨rfl, hi, hb, hk⟩
              refine ⟨_, rfl, ?_⟩
              have HB4 := Aside0.mk hb
              have HI4 := Aside0.mk hi
              clear hi hb hk
              refine hK.out _ _ ?_
              clear hK K
              refine norm_ (a' := ?_) ?_ ?_
              rotate_left
              · show Act.put _ (some 65) _ = _
                simp only [Act.put, List.setIfInBounds_toArray, List.set_cons_zero, List.set_cons_succ, i64_w, i32_w]
                rfl
              refine done_ (by kernel_rfl) ?_

              go_wp2
              go_roundg (l0.length - (j + 1))
              case measure => exact (by have := HN.out; omega)
              case rel =>
                rw [HW.out]
                exact ⟨j + 1, rfl, rfl, hlt, HI4, HB4⟩
            · have c3 : decide ((j : Int) < (l0.length : Int)) = false := decide_eq_false (by omega)
              have c4 : decide (j < l0.length) = false := decide_eq_false hlt
              obtain rfl : j = l0.length := by omega
              have hel : l0.take l0.length = l0 := List.take_length
              rw [hel] at HI
              have HPL2 := Aside0.mk (show (placesB (dictOf l0) l0).length ≤ 65536 * 16 from by have := HPL.out l0.length (Nat.le_refl _); rw [hel] at this; exact this)
              have HPK := Aside0.mk (pack_length (placesB (dictOf l0) l0))
              have HBF := Aside0.mk (show bits_Writer_Bytes.f (placesB (dictOf l0) l0) = some (pack (placesB (dictOf l0) l0), placesB (dictOf l0) l0) from if_pos (by have := HPL2.out; omega))
              have HFB2 := Aside0.mk (fixesB_length (dictOf l0))
              have HVL := Aside0.mk (vn_len10 (dictOf l0).length (by have := HDL.out; omega))
              clear hel hj hlt HPL
              go_wp2_with (first
                | (go_at_call 19; refine (bits_Writer_Bytes.calls _ _ _ _ w5 _ HI.out HB.out HBF.out).mono ?_; rintro e w6 ⟨v6, rfl, ho, hi, hb, hk⟩; have HO7 := Aside0.mk (Kd.R_below HO5.out hb); have HX7 := Aside0.mk ho; have HB7 := Aside0.mk (below_then HB5.out (below_size HB5.out) hb); clear ho hi hb hk; obtain ⟨A6, q6, e6⟩ := Kd.R_slice HX7.out; subst e6)
                | ((with_reducible refine gate_builtin (b := .append) (xs := #[.tmp 67, .tmp 69]) rfl ?_); at_builtin; refine Kd.R_append_rows (Kd.int .u8) (w0 := w) w.heap.size rfl (.tmp 67) (.tmp 69) 24 5 (.int .u8 0) 1 rfl Try.underlying24 info5 rfl (by decide) (by omega) v5 (vn (dictOf l0).length ++ fixesB (dictOf l0)) (pack (placesB (dictOf l0) l0)) A6 _ q6 (fun _ => True) (fun _ => False) rfl rfl HO7.out (Kd.R_reads' HX7.out).2.2 (fun _ _ h => h) (fun _ h => h.elim) (fun _ _ => trivial) HB7.out HB7.out.size (by have := HVL.out; have := HFB2.out; have := HDL.out; have := HPK.out; have := HPL2.out; rw [List.length_append]; omega) ?_; intro v8 w8 ho8 hb8 hg8 hat8; have HO8 := Aside0.mk ho8; have HB8 := Aside0.mk hb8; clear ho8 hb8 hg8 hat8))
              go_ret2
              rw [← H.out]
              exact ⟨_, rfl, HO8.out, HB8.out⟩
end Go.Proofs.Ytfnnlcmfahadhaa.P
