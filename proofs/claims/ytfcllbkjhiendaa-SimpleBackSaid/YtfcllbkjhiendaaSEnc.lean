/- simple.Encode as a pure function, and its contract. -/
import Derived.Test.YtfcllbkjhiendaaFits
import Derived.Test.YtfcllbkjhiendaaFix
import Derived.Test.YtfcllbkjhiendaaPx2
import Derived.WalkMore
import Derived.ScopeJumps
namespace Go.Proofs.Ytfcllbkjhiendaa.P
open Go.RowKit Go.Proofs.Ytfcllbkjhiendaa.Kit Go.Proofs.Ytfcllbkjhiendaa.Var Go.Proofs.YtfcllbkjhiendaaW.PrintWords Go.Proofs.YtfcllbkjhiendaaW.PrintLast Go.Proofs.YtfcllbkjhiendaaW.PrintMore
attribute [local go_sem] max2_int min2_int max_two min_two max_three min_three max_four min_four
set_option linter.unusedVariables false
set_option linter.unusedSimpArgs false

/-- The least sort from s on that fits. -/
def findS : Nat → Nat → List Int → Nat
  | 0, s, _ => s
  | d + 1, s, l => if fitsB l s = true then s else findS d (s + 1) l
def sEncN : Nat → List Int → List Int
  | 0, _ => []
  | d + 1, l => if l = [] then [] else fixB 8 (packB l (findS 15 0 l)) ++ sEncN d (l.drop (nn (findS 15 0 l)))
def small60 : Nat → Nat → List Int → Bool
  | 0, _, _ => true
  | d + 1, i, l => if rd l (i : Int) < 2 ^ 60 then small60 d (i + 1) l else false
def sEnc (l : List Int) : List Int × Int := if 65536 < l.length then ([], 4) else if small60 l.length 0 l = true then (sEncN l.length l, 0) else ([], 1)
def simple_Encode.f (l : List Int) : Option (List Int × Int) := if (∀ x ∈ l, 0 ≤ x ∧ x ≤ 18446744073709551615) ∧ l.length < 140737488355328 then some (sEnc l) else none
theorem small60_rd (l : List Int) (d : Nat) : ∀ i, small60 d i l = true → ∀ j, i ≤ j → j < i + d → rd l (j : Int) < 2 ^ 60 := by
  induction d with
  | zero => intro i _ j h1 h2; omega
  | succ d ih =>
    intro i h j h1 h2
    rw [small60] at h
    split at h
    · next hx =>
      by_cases e : j = i
      · rw [e]
        exact hx
      · exact ih (i + 1) h j (by omega) (by omega)
    · cases h
theorem fits15 (l : List Int) (h0 : 0 < l.length) (h : ∀ x ∈ l, x < 2 ^ 60) : fitsB l 15 = true := by
  unfold fitsB
  rw [show nn 15 = 1 from rfl, show ww 15 = 60 from rfl, if_neg (by omega)]
  simp only [fitsN]
  rw [if_pos (h _ (rd_mem l _ (by omega) (by omega)))]
theorem findS_fits (l : List Int) (h0 : 0 < l.length) (h : ∀ x ∈ l, x < 2 ^ 60) (d : Nat) : ∀ s, s + d = 15 → fitsB l (findS d s l) = true ∧ s ≤ findS d s l ∧ findS d s l ≤ 15 := by
  induction d with
  | zero =>
    intro s hs
    obtain rfl : s = 15 := by omega
    exact ⟨fits15 l h0 h, Nat.le_refl _, Nat.le_refl _⟩
  | succ d ih =>
    intro s hs
    rw [findS]
    split
    · next hf => exact ⟨hf, Nat.le_refl _, by omega⟩
    · have := ih (s + 1) (by omega)
      exact ⟨this.1, by omega, this.2.2⟩
theorem fits_f (l : List Int) (s : Nat) (hu : ∀ x ∈ l, 0 ≤ x ∧ x ≤ 18446744073709551615) (hs : s < 16) (hl : l.length < 140737488355328) : simple_fits.f l (s : Int) = some (fitsB l s) := by
  unfold simple_fits.f
  rw [if_pos ⟨hu, by omega, by omega, hl⟩, Int.toNat_natCast]
theorem pack_f (l : List Int) (s : Nat) (hu : ∀ x ∈ l, 0 ≤ x ∧ x ≤ 18446744073709551615) (hs : s < 16) (hl : l.length < 140737488355328) (hf : fitsB l s = true) : simple_pack.f l (s : Int) = some (packB l s) := by
  unfold simple_pack.f
  rw [if_pos ⟨hu, by omega, by omega, hl, by rw [Int.toNat_natCast]; exact hf⟩, Int.toNat_natCast]
theorem lt15 (l : List Int) (h0 : 0 < l.length) (h : ∀ x ∈ l, x < 2 ^ 60) (s : Nat) (hs : s ≤ 15) (hb : fitsB l s = false) : s < 15 := by
  rcases Nat.lt_or_ge s 15 with h1 | h1
  · exact h1
  · obtain rfl : s = 15 := by omega
    rw [fits15 l h0 h] at hb
    cases hb
theorem found (l : List Int) (s : Nat) (hs : s ≤ 15) (hb : fitsB l s = true) (h : findS (15 - s) s l = findS 15 0 l) : findS 15 0 l = s := by
  rw [← h]
  rcases Nat.lt_or_ge s 15 with h1 | h1
  · rw [show 15 - s = (15 - (s + 1)) + 1 by omega, findS, if_pos hb]
  · rw [show 15 - s = 0 by omega, findS]
theorem foundF (l : List Int) (s : Nat) (hs : s < 15) (hb : fitsB l s = false) (h : findS (15 - s) s l = findS 15 0 l) : findS (15 - (s + 1)) (s + 1) l = findS 15 0 l := by
  rw [← h]
  have e : 15 - s = (15 - (s + 1)) + 1 := by omega
  rw [e, findS, if_neg (by rw [hb]; decide)]
theorem shr60 (x : Int) (hx : 0 ≤ x) : (x / 1152921504606846976 != 0) = !decide (x < 2 ^ 60) := by
  have := shr_zero x 60 hx
  rwa [show (2 : Int) ^ 60 = 1152921504606846976 by decide] at this ⊢
set_option maxHeartbeats 1000000 in
set_option maxRecDepth 100000 in
theorem simple_Encode.calls (A0 : Option Addr) (c0 : Nat) (l0 : List Int) (r1 : List Int) (r2 : Int) (w : World) (hr0 : Kd.C (Kd.int .u64) w A0 l0.length l0) (hc0 : l0.length ≤ c0) (h : simple_Encode.f l0 = some (r1, r2)) :
    Calls Try.prog 10 #[.slice A0 l0.length c0] w fun e w' => ∃ v0_ : Value, e = .returned (.tuple #[v0_, .int .i64 r2]) ∧ Kd.R (Kd.int .u8) 5 w' w.heap.size (fun _ => True) v0_ r1 ∧ Below w.heap.size w w' := by
  unfold simple_Encode.f at h
  split at h
  case isFalse => cases h
  case isTrue hc =>
    injection h with h
    unfold sEnc at h
    obtain ⟨hu, hl⟩ := hc
    by_cases h65 : 65536 < l0.length
    · rw [if_pos h65] at h
      injection h with h1 h2
      subst h1 h2
      have c1 : decide (65536 < (l0.length : Int)) = true := decide_eq_true (by omega)
      have c2 : decide (65536 < l0.length) = true := decide_eq_true h65
      clear hr0 hc0 hu hl h65
      go_enter Try.func10, Try.ntmps10
      go_wp2
      go_ret2
      exact ⟨_, rfl, Kd.R_nil _ _ _ _ _, Below.refl _ _⟩
    · rw [if_neg h65] at h
      have c1 : decide (65536 < (l0.length : Int)) = false := decide_eq_false (by omega)
      have c2 : decide (65536 < l0.length) = false := decide_eq_false h65
      have H := Aside0.mk h
      have HR := Aside0.mk hr0
      have HU := Aside0.mk hu
      have HN := Aside0.mk (show l0.length ≤ 65536 ∧ l0.length ≤ c0 from ⟨by omega, hc0⟩)
      clear hr0 hc0 hu hl h65 h
      go_enter Try.func10, Try.ntmps10
      go_wp2
      go_loopg [5, 15] l0.length (fun kq v5 v15 W' => ∃ i : Nat, v15 = .int .i64 (i : Int) ∧ kq = l0.length - i ∧ i ≤ l0.length ∧ Aside0 (small60 (l0.length - i) i l0 = small60 l0.length 0 l0) ∧ w = W')
      case atStart => exact ⟨0, rfl, rfl, Nat.zero_le _, ⟨rfl⟩, rfl⟩
      case round =>
        obtain ⟨i, rfl, rfl, hi, HF, rfl⟩ := hrel
        by_cases hlt : i < l0.length
        · have c3 : decide ((i : Int) < (l0.length : Int)) = true := decide_eq_true (by omega)
          have c4 : decide (i < l0.length) = true := decide_eq_true hlt
          obtain ⟨ad2, e2, hx⟩ := Kd.at_int HR.out (i : Int) (by omega) (by omega)
          subst e2
          rw [Int.toNat_natCast] at hx
          have hmem : 0 ≤ rd l0 (i : Int) := (HU.out _ (rd_mem l0 (i : Int) (by omega) (by omega))).1
          have hz := shr60 (rd l0 (i : Int)) hmem
          have hw := wrap_k i (by have := HN.out; omega)
          have hun := HF.out
          rw [show l0.length - i = (l0.length - (i + 1)) + 1 by clear hw hz; omega, small60] at hun
          by_cases hb : rd l0 (i : Int) < 2 ^ 60
          · rw [decide_eq_true hb] at hz
            rw [if_pos hb] at hun
            have HF2 := Aside0.mk hun
            clear hmem hb hun HF
            go_wp2
            go_roundg (l0.length - (i + 1))
            case measure => exact (by clear hw; omega)
            case rel =>
              rw [hw]
              exact ⟨i + 1, rfl, rfl, hlt, HF2, rfl⟩
          · rw [decide_eq_false hb] at hz
            rw [if_neg hb] at hun
            have HF2 := Aside0.mk hun
            clear hmem hb hun HF
            go_wp2
            go_ret2
            have h := H.out
            rw [← HF2.out, if_neg (by decide)] at h
            injection h with h1 h2
            subst h1 h2
            exact ⟨_, rfl, Kd.R_nil _ _ _ _ _, Below.refl _ _⟩
        · have c3 : decide ((i : Int) < (l0.length : Int)) = false := decide_eq_false (by omega)
          have c4 : decide (i < l0.length) = false := decide_eq_false hlt
          have e : l0.length - i = 0 := by omega
          have h := H.out
          rw [← HF.out, e, small60, if_pos rfl] at h
          injection h with h1 h2
          subst h1 h2
          rw [e] at HF
          have HSM := Aside0.mk (show ∀ x ∈ l0, x < 2 ^ 60 from by
            have h3 := HF.out
            rw [small60] at h3
            intro x hx
            obtain ⟨j, hj, rfl⟩ := List.getElem_of_mem hx
            have := small60_rd l0 l0.length 0 h3.symm j (by omega) (by omega)
            rw [rd_nat, List.getD_eq_getElem?_getD, List.getElem?_eq_getElem hj, Option.getD_some] at this
            exact this)
          clear H HF e c3 hi hlt
          go_wp2
          go_loopg [0, 6] l0.length (fun kq v0 v6 W' => ∃ (A1 : Option Addr) (c1 : Nat) (l : List Int) (out : List Int), v0 = .slice A1 l.length c1 ∧ Aside0 (Kd.C (Kd.int .u64) w A1 l.length l) ∧ Aside0 (l.length ≤ c1 ∧ l.length ≤ kq ∧ l.length ≤ 65536 ∧ out.length + 8 * l.length ≤ 524288) ∧ Aside0 (∀ x ∈ l, 0 ≤ x ∧ x ≤ 18446744073709551615 ∧ x < 2 ^ 60) ∧ Aside0 (out ++ sEncN kq l = sEncN l0.length l0) ∧ Aside0 (Below w.heap.size w W') ∧ Aside0 (Kd.R (Kd.int .u8) 5 W' w.heap.size (fun _ => True) v6 out))
          case atStart => exact ⟨A0, c0, l0, [], rfl, HR, ⟨HN.out.2, Nat.le_refl _, HN.out.1, by have := HN.out; simp; omega⟩, ⟨fun x hx => ⟨(HU.out x hx).1, (HU.out x hx).2, HSM.out x hx⟩⟩, ⟨rfl⟩, ⟨Below.refl _ _⟩, ⟨Kd.R_nil _ _ _ _ _⟩⟩
          case round =>
            clear HR HN HU HSM c2 c4
            obtain ⟨A1, c1, l, out, rfl, HR, HN, HU, HE, HBW, HOW⟩ := hrel
            obtain ⟨A6, q6, e6⟩ := Kd.R_slice HOW.out
            subst e6
            by_cases hpos : 0 < l.length
            · have c5 : decide (0 < (l.length : Int)) = true := decide_eq_true (by omega)
              have c6 : decide (0 < l.length) = true := decide_eq_true hpos
              go_wp2
              refine wp_scope_jumps 0 (fun a' w' => ∃ (s : Nat) (x26 x27 x28 x29 x30 x31 : Value), s ≤ 15 ∧ a' = ⟨#[.slice A1 l.length c1, undef, u2, u3, undef, u5, .slice A6 out.length q6, .int .i64 (s : Int), u8, u9, .slice A0 l0.length c0, .int .i64 (l0.length : Int), .bool false, .slice A0 l0.length c0, .int .i64 (l0.length : Int), .int .i64 (i : Int), .bool false, u17, u18, u19, u20, u21, u22, .slice A1 l.length c1, .int .i64 (l.length : Int), .bool true, x26, x27, x28, x29, x30, x31, u32, u33, u34, u35, u36, u37, u38, u39, u40, u41, u42, u43, u44, u45, undef], []⟩ ∧ Aside0 (findS (15 - s) s l = findS 15 0 l) ∧ Aside0 (Below w.heap.size w w') ∧ Aside0 (Kd.R (Kd.int .u8) 5 w' w.heap.size (fun _ => True) (.slice A6 out.length q6) out)) (fun (a' : Act) _ => 15 - (match (a'.tmps[7]? : Option Value) with | some (Value.int _ s) => s.toNat | _ => 0)) (by rfl) ?first ?pass
              case first =>
                go_wp2
                go_step3
                have HFS : Aside0 (findS 15 0 l = findS 15 0 l) := ⟨rfl⟩
                cases hb : fitsB l 0 with
                | false =>
                  have hlt15 : 0 < 15 := lt15 l hpos (fun x hx => (HU.out x hx).2.2) 0 (by omega) hb
                  have HFS2 := Aside0.mk (foundF l 0 hlt15 hb HFS.out)
                  have HF := Aside0.mk (simple_fits.calls A1 c1 l ((0 : Nat) : Int) _ _ (Kd.C_below HR.out HBW.out) HN.out.1 (fits_f l 0 (fun x hx => ⟨(HU.out x hx).1, (HU.out x hx).2.1⟩) (by omega) (by have := HN.out; omega)))
                  rw [hb] at HF
                  have hw := wrap_k 0 (by omega)
                  clear hb
                  go_wp2_with (first | go_step3 | (go_at_call 18; refine HF.out.mono ?_; rintro e w2 ⟨rfl, hb⟩; have HO2 := Aside0.mk (Kd.R_below HOW.out hb); have HB2 := Aside0.mk (below_step HBW.out hb); clear hb))
                  exact ⟨rfl, 0 + 1, by decide, ⟨_, _, _, _, _, _, rfl⟩, HFS2, HB2, HO2⟩
                | true =>
                  have HF := Aside0.mk (simple_fits.calls A1 c1 l ((0 : Nat) : Int) _ _ (Kd.C_below HR.out HBW.out) HN.out.1 (fits_f l 0 (fun x hx => ⟨(HU.out x hx).1, (HU.out x hx).2.1⟩) (by omega) (by have := HN.out; omega)))
                  have hHS : findS 15 0 l = 0 := found l 0 (by omega) hb HFS.out
                  rw [hb] at HF
                  have HPK := Aside0.mk (pack_f l 0 (fun x hx => ⟨(HU.out x hx).1, (HU.out x hx).2.1⟩) (by omega) (by have := HN.out; omega) hb)
                  have HRM := Aside0.mk (room_f 0 (by omega))
                  obtain ⟨f1, f2, f3, f4⟩ := room_facts 0 (by omega)
                  obtain ⟨g1, g2⟩ := fitsB_facts hb
                  obtain ⟨kf, hkf⟩ := (Fix_ev (packB l 0) 8 (by decide)).get
                  obtain ⟨dq, hdq⟩ : ∃ dq, gk = dq + 1 := ⟨gk - 1, by have := HN.out; omega⟩
                  have hHE := HE.out
                  rw [hdq, sEncN, if_neg (by intro e; rw [e] at hpos; simp at hpos), hHS, ← List.append_assoc] at hHE
                  have HE2 := Aside0.mk hHE
                  have HFX := Aside0.mk hkf
                  have hfl := fixB_length (packB l 0) 8
                  generalize fixB 8 (packB l 0) = fx at HFX HE2 hfl
                  generalize nn 0 = n at HRM HE2 f1 g1
                  obtain ⟨i09, hi09, _, hsz9, _⟩ := info_parts info36
                  obtain ⟨A9, hcut9, hA9, hC9⟩ := print_drop_of (P := Try.prog) (Value.int .u64) (0 : Int) 22 36 .i64 Try.underlying22 hi09 hsz9 A1 c1 l (n : Int) (by omega) (by omega) HN.out.1
                  rw [Int.toNat_natCast] at hcut9 hA9 hC9
                  have HR9 := Aside0.mk (Kd.C_of_reads (h1 := fun _ => rfl) (hA9 _ (Kd.reads_of_C HR.out)))
                  have hdl : (l.drop n).length = l.length - n := List.length_drop
                  have HD := Aside0.mk (show (l.drop n).length ≤ c1 - n ∧ (l.drop n).length ≤ dq ∧ (l.drop n).length ≤ 65536 ∧ (out ++ fx).length + 8 * (l.drop n).length ≤ 524288 from ⟨hC9, by have := HN.out; omega, by have := HN.out; omega, by have := HN.out; rw [List.length_append, hfl]; omega⟩)
                  have HFL := Aside0.mk hfl
                  have HDQ := Aside0.mk hdq
                  have HU9 := Aside0.mk (show ∀ x ∈ l.drop n, 0 ≤ x ∧ x ≤ 18446744073709551615 ∧ x < 2 ^ 60 from fun x hx => HU.out x (List.mem_of_mem_drop hx))
                  generalize l.drop n = l9 at *
                  clear hkf hb g2 f3 f4 hHE hA9 hC9 hi09 hsz9 f1 g1 f2 hdl hfl hHS hdq
                  go_wp2_with (first
                    | go_step3
                    | (go_at_call 18; refine HF.out.mono ?_; rintro e w2 ⟨rfl, hb⟩; have HO2 := Aside0.mk (Kd.R_below HOW.out hb); have HB2 := Aside0.mk (below_step HBW.out hb); clear hb)
                    | (go_at_call 20; refine (simple_pack.calls A1 c1 l ((0 : Nat) : Int) _ _ (Kd.C_below HR.out HB2.out) HN.out.1 HPK.out).mono ?_; rintro e w3 ⟨rfl, hb⟩; have HO3 := Aside0.mk (Kd.R_below HO2.out hb); have HB3 := Aside0.mk (below_step HB2.out hb); clear hb)
                    | (go_at_call 19; refine (cursor_Fix.calls kf _ _ _ _ HFX.out).mono ?_; rintro e w4 ⟨v4, rfl, ho4, hb⟩; have HO4 := Aside0.mk (Kd.R_below HO3.out hb); have HB4 := Aside0.mk (below_step HB3.out hb); have HX4 := Aside0.mk ho4; clear hb ho4; obtain ⟨AX, qX, eX⟩ := Kd.R_slice HX4.out; subst eX)
                    | (go_at_call 12; refine (simple_Room.calls _ _ _ _ HRM.out).mono ?_; rintro e w6 ⟨rfl, hb⟩; have HO6 := Aside0.mk (Kd.R_below HO5.out hb); have HB6 := Aside0.mk (below_step HB5.out hb); clear hb)
                    | ((with_reducible refine gate_builtin (b := .append) (xs := #[.tmp 32, .tmp 36]) rfl ?_); at_builtin; refine Kd.R_append_rows (Kd.int .u8) (w0 := w) w.heap.size rfl (.tmp 32) (.tmp 36) 24 5 (.int .u8 0) 1 rfl Try.underlying24 info5 rfl (by decide) (by omega) (.slice A6 out.length q6) out fx AX _ qX (fun _ => True) (fun _ => False) rfl rfl HO4.out (Kd.R_reads' HX4.out).2.2 (fun _ _ h => h) (fun _ h => h.elim) (fun _ _ => trivial) HB4.out HB4.out.size (by have := HFL.out; have := HN.out; omega) ?_; intro v5 w5 ho5 hb5 hg5 hat5; have HO5 := Aside0.mk ho5; have HB5 := Aside0.mk hb5; clear ho5 hb5 hg5 hat5))
                  (try simp only [Exit.jump])
                  go_wp2
                  go_roundg dq
                  case measure => exact (by have := HDQ.out; omega)
                  case rel => exact ⟨A9, c1 - n, l9, out ++ fx, rfl, HR9, HD, HU9, HE2, HB6, HO6⟩
              case pass =>
                clear HBW HOW
                rintro a' w' ⟨s, x26, x27, x28, x29, x30, x31, hs15, rfl, HFS, HBW, HOW⟩
                cases hb : fitsB l s with
                | false =>
                  have hlt15 : s < 15 := lt15 l hpos (fun x hx => (HU.out x hx).2.2) s hs15 hb
                  have HFS2 := Aside0.mk (foundF l s hlt15 hb HFS.out)
                  have HF := Aside0.mk (simple_fits.calls A1 c1 l ((s : Nat) : Int) _ _ (Kd.C_below HR.out HBW.out) HN.out.1 (fits_f l s (fun x hx => ⟨(HU.out x hx).1, (HU.out x hx).2.1⟩) (by omega) (by have := HN.out; omega)))
                  rw [hb] at HF
                  have hw := wrap_k s (by omega)
                  clear hb
                  go_wp2_with (first | go_step3 | (go_at_call 18; refine HF.out.mono ?_; rintro e w2 ⟨rfl, hb⟩; have HO2 := Aside0.mk (Kd.R_below HOW.out hb); have HB2 := Aside0.mk (below_step HBW.out hb); clear hb))
                  exact ⟨rfl, ⟨s + 1, (by clear hw; omega), ⟨_, _, _, _, _, _, rfl⟩, HFS2, HB2, HO2⟩, (by clear hw; show 15 - ((s : Int) + 1).toNat < 15 - s; omega)⟩
                | true =>
                  have HF := Aside0.mk (simple_fits.calls A1 c1 l ((s : Nat) : Int) _ _ (Kd.C_below HR.out HBW.out) HN.out.1 (fits_f l s (fun x hx => ⟨(HU.out x hx).1, (HU.out x hx).2.1⟩) (by omega) (by have := HN.out; omega)))
                  have hHS : findS 15 0 l = s := found l s hs15 hb HFS.out
                  rw [hb] at HF
                  have HPK := Aside0.mk (pack_f l s (fun x hx => ⟨(HU.out x hx).1, (HU.out x hx).2.1⟩) (by omega) (by have := HN.out; omega) hb)
                  have HRM := Aside0.mk (room_f s (by omega))
                  obtain ⟨f1, f2, f3, f4⟩ := room_facts s (by omega)
                  obtain ⟨g1, g2⟩ := fitsB_facts hb
                  obtain ⟨kf, hkf⟩ := (Fix_ev (packB l s) 8 (by decide)).get
                  obtain ⟨dq, hdq⟩ : ∃ dq, gk = dq + 1 := ⟨gk - 1, by have := HN.out; omega⟩
                  have hHE := HE.out
                  rw [hdq, sEncN, if_neg (by intro e; rw [e] at hpos; simp at hpos), hHS, ← List.append_assoc] at hHE
                  have HE2 := Aside0.mk hHE
                  have HFX := Aside0.mk hkf
                  have hfl := fixB_length (packB l s) 8
                  generalize fixB 8 (packB l s) = fx at HFX HE2 hfl
                  generalize nn s = n at HRM HE2 f1 g1
                  obtain ⟨i09, hi09, _, hsz9, _⟩ := info_parts info36
                  obtain ⟨A9, hcut9, hA9, hC9⟩ := print_drop_of (P := Try.prog) (Value.int .u64) (0 : Int) 22 36 .i64 Try.underlying22 hi09 hsz9 A1 c1 l (n : Int) (by omega) (by omega) HN.out.1
                  rw [Int.toNat_natCast] at hcut9 hA9 hC9
                  have HR9 := Aside0.mk (Kd.C_of_reads (h1 := fun _ => rfl) (hA9 _ (Kd.reads_of_C HR.out)))
                  have hdl : (l.drop n).length = l.length - n := List.length_drop
                  have HD := Aside0.mk (show (l.drop n).length ≤ c1 - n ∧ (l.drop n).length ≤ dq ∧ (l.drop n).length ≤ 65536 ∧ (out ++ fx).length + 8 * (l.drop n).length ≤ 524288 from ⟨hC9, by have := HN.out; omega, by have := HN.out; omega, by have := HN.out; rw [List.length_append, hfl]; omega⟩)
                  have HFL := Aside0.mk hfl
                  have HDQ := Aside0.mk hdq
                  have HU9 := Aside0.mk (show ∀ x ∈ l.drop n, 0 ≤ x ∧ x ≤ 18446744073709551615 ∧ x < 2 ^ 60 from fun x hx => HU.out x (List.mem_of_mem_drop hx))
                  generalize l.drop n = l9 at *
                  clear hkf hb g2 f3 f4 hHE hA9 hC9 hi09 hsz9 f1 g1 f2 hdl hfl hHS hdq
                  go_wp2_with (first
                    | go_step3
                    | (go_at_call 18; refine HF.out.mono ?_; rintro e w2 ⟨rfl, hb⟩; have HO2 := Aside0.mk (Kd.R_below HOW.out hb); have HB2 := Aside0.mk (below_step HBW.out hb); clear hb)
                    | (go_at_call 20; refine (simple_pack.calls A1 c1 l ((s : Nat) : Int) _ _ (Kd.C_below HR.out HB2.out) HN.out.1 HPK.out).mono ?_; rintro e w3 ⟨rfl, hb⟩; have HO3 := Aside0.mk (Kd.R_below HO2.out hb); have HB3 := Aside0.mk (below_step HB2.out hb); clear hb)
                    | (go_at_call 19; refine (cursor_Fix.calls kf _ _ _ _ HFX.out).mono ?_; rintro e w4 ⟨v4, rfl, ho4, hb⟩; have HO4 := Aside0.mk (Kd.R_below HO3.out hb); have HB4 := Aside0.mk (below_step HB3.out hb); have HX4 := Aside0.mk ho4; clear hb ho4; obtain ⟨AX, qX, eX⟩ := Kd.R_slice HX4.out; subst eX)
                    | (go_at_call 12; refine (simple_Room.calls _ _ _ _ HRM.out).mono ?_; rintro e w6 ⟨rfl, hb⟩; have HO6 := Aside0.mk (Kd.R_below HO5.out hb); have HB6 := Aside0.mk (below_step HB5.out hb); clear hb)
                    | ((with_reducible refine gate_builtin (b := .append) (xs := #[.tmp 32, .tmp 36]) rfl ?_); at_builtin; refine Kd.R_append_rows (Kd.int .u8) (w0 := w) w.heap.size rfl (.tmp 32) (.tmp 36) 24 5 (.int .u8 0) 1 rfl Try.underlying24 info5 rfl (by decide) (by omega) (.slice A6 out.length q6) out fx AX _ qX (fun _ => True) (fun _ => False) rfl rfl HO4.out (Kd.R_reads' HX4.out).2.2 (fun _ _ h => h) (fun _ h => h.elim) (fun _ _ => trivial) HB4.out HB4.out.size (by have := HFL.out; have := HN.out; omega) ?_; intro v5 w5 ho5 hb5 hg5 hat5; have HO5 := Aside0.mk ho5; have HB5 := Aside0.mk hb5; clear ho5 hb5 hg5 hat5))
                  (try simp only [Exit.jump])
                  go_wp2
                  go_roundg dq
                  case measure => exact (by have := HDQ.out; omega)
                  case rel => exact ⟨A9, c1 - n, l9, out ++ fx, rfl, HR9, HD, HU9, HE2, HB6, HO6⟩
            · have hl0 : l = [] := List.eq_nil_of_length_eq_zero (by omega)
              subst hl0
              have hHE := HE.out
              rw [show sEncN gk [] = [] from by cases gk <;> simp [sEncN], List.append_nil] at hHE
              have HE2 := Aside0.mk hHE
              clear hHE HE
              go_wp2
              go_ret2
              rw [← HE2.out]
              exact ⟨_, rfl, HOW.out, HBW.out⟩
end Go.Proofs.Ytfcllbkjhiendaa.P
