/- The reference's Decode: its contract. Printed by gen_rdec.py. -/
import Derived.Test.YtfpnoceppjjafaaDoorRget
import Derived.Test.YtfpnoceppjjafaaDoorRenc
import Derived.Test.YtfpnoceppjjafaaDoorGdec
import Derived.WalkMore
import Derived.Test.YtfpnoceppjjafaaDoorPx9
import Derived.Test.YtfpnoceppjjafaaDoorPx4
namespace Go.Proofs.YtfpnoceppjjafaaDoor.P
open Go.RowKit Go.Proofs.YtfpnoceppjjafaaDoor.Kit Go.Proofs.YtfpnoceppjjafaaDoor.Var Go.Proofs.YtfpnoceppjjafaaDoorW.PrintWords Go.Proofs.YtfpnoceppjjafaaDoorW.PrintLast Go.Proofs.YtfpnoceppjjafaaDoorW.PrintMore
set_option linter.unusedVariables false
set_option linter.unusedSimpArgs false
def casketref09_Decode.f (b : List Int) (n : Int) : Option (List Int × Int) := if (∀ x ∈ b, 0 ≤ x ∧ x < 256) ∧ b.length < 2097152 then some (gDec b n) else none
def refR (q p : Int × Int) : Prop := p = (-1, 0) ∧ q = (-1, -1) ∨ (0 ≤ q.1 ∧ q.1 ≤ 31 ∧ q.1 + q.2 ≤ 63) ∧ p = q
theorem refR_of {q p : Int × Int} (h : refP q p) (hp : okW p) : refR q p := by
  rcases h with h | ⟨h0, h1⟩
  · exact .inl h
  · rcases hp with e | e
    · rw [e] at h0
      exact absurd h0 (by decide)
    · exact .inr ⟨by rw [h1]; exact ⟨e.1, e.2.1, e.2.2.2⟩, h1.symm⟩
/-- Behind the window: what is yet to come. -/
def Mid (t : Int × Int × List Int × Int × Int) (a z : Int) (l : List Int) (b : Int) : Prop := b ≠ 0 ∧ t.2.1 = b ∨ b = 0 ∧ ∃ p, refR (a, z) p ∧ t = gNr p l
/-- Behind an item. -/
def Pass (t : Int × Int × List Int × Int × Int) (a z x : Int) (l : List Int) (b : Int) : Prop := t.2.1 = b ∧ (b = 0 → t.1 = x ∧ t.2.2.1 = l ∧ refP (a, z) t.2.2.2)
theorem gNr_bad {a z : Int} {p : Int × Int} {l : List Int} (h : refR (a, z) p) (hb : a < 0 ∨ z < 0) : (gNr p l).2.1 = 3 := by
  unfold gNr
  rcases h with ⟨h1, _⟩ | ⟨h1, h2⟩
  · rw [if_pos (.inl h1)]
  · rw [if_pos (.inr (by rw [h2]; rcases hb with hb | hb; (exact absurd h1.1 (by show ¬ 0 ≤ a; omega)); exact hb))]
theorem gNr_good {a z : Int} {p : Int × Int} {l : List Int} (h : refR (a, z) p) (ha : 0 ≤ a) (hz : 0 ≤ z) : gNr p l = ((rGet l (64 - a - z)).1 * 2 ^ z.toNat, (rGet l (64 - a - z)).2.1, (rGet l (64 - a - z)).2.2, a, z) := by
  rcases h with ⟨_, h1⟩ | ⟨h1, h2⟩
  · injection h1 with h1 _
    omega
  · subst h2
    unfold gNr
    rw [if_neg]
    rintro (h | h)
    · injection h with h _
      omega
    · exact absurd hz (by show ¬ 0 ≤ z; have : z < 0 := h; omega)
theorem reader_get0 (g : Nat) (l : List Int) (ow : Option Nat) (wd : Nat) (hwd : wd ≤ 64) (v e : Int) (l' : List Int) (w0 w : World) (hI : RdS w0 w g ow l 0) (hB : Below w0.heap.size w0 w) (ho : ∀ k, ow = some k → k < w.heap.size) (h : rGet l (wd : Int) = (v, e, l')) :
    Calls Tryd.prog 32 #[.pointer (some ⟨g, 0, none⟩), .int .i64 (wd : Int)] w fun x w' => x = .returned (.int .u64 v) ∧ RdS w0 w' g ow l' e ∧ Below w0.heap.size w0 w' ∧ KeepBut w w' g none := by
  refine (reader_get.calls g l 0 ow wd hwd v e l' w0 w hI hB ho h).mono ?_
  rintro x w' ⟨rfl, h1, h2, h3⟩
  refine ⟨rfl, ?_, h2, h3⟩
  by_cases he : e = 0
  · subst he
    exact h1
  · rw [if_pos ⟨he, rfl⟩] at h1
    exact h1
theorem mid_w {p : Int × Int} {l2 l5 l6 : List Int} {v5 e5 v6 e6 : Int} (h5r : rGet l2 5 = (v5, e5, l5)) (h6r : rGet l5 6 = (v6, e6, l6)) (q0 : 0 ≤ v5) (q1 : v5 ≤ 31) (q2 : 0 ≤ v6) : Mid (gNw p l2) v5 (63 - v5 - v6) l6 (if e6 ≠ 0 ∧ e5 = 0 then e6 else e5) := by
  have hw : gNw p l2 = if e5 ≠ 0 then (0, e5, l5, p) else if e6 ≠ 0 then (0, e6, l6, p) else gNr (v5, 63 - v5 - v6) l6 := by
    unfold gNw
    rw [h5r, h6r]
  by_cases h5 : e5 = 0
  · by_cases h6 : e6 = 0
    · rw [if_neg (fun h : e6 ≠ 0 ∧ e5 = 0 => h.1 h6)]
      refine .inr ⟨h5, (v5, 63 - v5 - v6), .inr ⟨⟨q0, q1, ?_⟩, rfl⟩, ?_⟩
      · show v5 + (63 - v5 - v6) ≤ 63
        omega
      · rw [hw, if_neg (fun h => h h5), if_neg (fun h => h h6)]
    · rw [if_pos (show e6 ≠ 0 ∧ e5 = 0 from ⟨h6, h5⟩)]
      refine .inl ⟨h6, ?_⟩
      rw [hw, if_neg (fun h => h h5), if_pos h6]
  · rw [if_neg (fun h : e6 ≠ 0 ∧ e5 = 0 => h5 h.2)]
    refine .inl ⟨h5, ?_⟩
    rw [hw, if_pos h5]
theorem mid_o {p : Int × Int} {l1 l2 : List Int} {v2 e2 a z : Int} (h2r : rGet l1 1 = (v2, e2, l2)) (hv : ¬ v2 = 1) (hr : refR (a, z) p) : Mid (gNo p l1) a z l2 e2 := by
  have hw : gNo p l1 = if e2 ≠ 0 then (0, e2, l2, p) else if v2 = 1 then gNw p l2 else gNr p l2 := by
    unfold gNo
    rw [h2r]
  by_cases h2 : e2 = 0
  · exact .inr ⟨h2, p, hr, by rw [hw, if_neg (fun h => h h2), if_neg hv]⟩
  · exact .inl ⟨h2, by rw [hw, if_pos h2]⟩
/-- Where the loop stands. -/
def LoopOK (n : Nat) (L : List Int) (i : Nat) (out l : List Int) (a z b : Int) : Prop :=
  b = 0 ∧ out.length = i ∧ (∀ x ∈ out, U x) ∧ (∃ p, okW p ∧ refP (a, z) p ∧ gLoop n [] (-1, 0) L = gLoop (n - i) out p l) ∨ b ≠ 0 ∧ gLoop n [] (-1, 0) L = ([], b)
theorem LoopOK.step {n : Nat} {L : List Int} {i : Nat} {out l : List Int} {p : Int × Int} {a z x b : Int} {l' : List Int} {t : Int × Int × List Int × Int × Int} (hi : i < n) (hlen : out.length = i) (hu : ∀ x ∈ out, U x) (hok : okW p) (h01 : is01 l) (hl : gLoop n [] (-1, 0) L = gLoop (n - i) out p l) (ht : gOne out p l = t) (hp : Pass t a z x l' b) : LoopOK n L (i + 1) (out ++ [x]) l' a z b := by
  have hf := gOne_facts hu hok h01
  rw [ht] at hf
  have hl2 : gLoop n [] (-1, 0) L = if t.2.1 ≠ 0 then ([], t.2.1) else gLoop (n - (i + 1)) (out ++ [t.1]) t.2.2.2 t.2.2.1 := by
    rw [hl, show n - i = (n - (i + 1)) + 1 by omega, gLoop, ht]
  by_cases hb : b = 0
  · obtain ⟨h1, h2, h3⟩ := hp.2 hb
    have h0 : t.2.1 = 0 := hp.1.trans hb
    refine .inl ⟨hb, by rw [List.length_append, hlen]; rfl, fun y hy => ?_, t.2.2.2, (hf.2 h0).2, h3, ?_⟩
    · rcases List.mem_append.1 hy with hy | hy
      · exact hu y hy
      · rw [List.mem_singleton.1 hy, ← h1]
        exact (hf.2 h0).1
    · rw [hl2, if_neg (fun h => h h0), h1, h2]
  · exact .inr ⟨hb, by rw [hl2, hp.1, if_pos hb]⟩
set_option maxHeartbeats 8000000 in
set_option maxRecDepth 100000 in
theorem casketref09_Decode.calls (A0 : Option Addr) (c0 : Nat) (l0 : List Int) (a1 : Int) (r1 : List Int) (r2 : Int) (w : World) (hr0 : Kd.C (Kd.int .u8) w A0 l0.length l0) (hc0 : l0.length ≤ c0) (h : casketref09_Decode.f l0 a1 = some (r1, r2)) :
    Calls Tryd.prog 14 #[.slice A0 l0.length c0, .int .i64 a1] w fun e w' => ∃ v0_ : Value, e = .returned (.tuple #[v0_, .int .i64 r2]) ∧ Kd.R (Kd.int .u64) 35 w' w.heap.size (fun _ => True) v0_ r1 ∧ Below w.heap.size w w' := by
  unfold casketref09_Decode.f at h
  split at h
  case isFalse => cases h
  case isTrue hc =>
    injection h with h
    unfold gDec at h
    obtain ⟨hu, hl⟩ := hc
    by_cases hn0 : a1 < 0
    · rw [if_pos (.inl hn0)] at h
      injection h with h1 h2
      subst h1 h2
      have c1 : decide (a1 < 0) = true := decide_eq_true hn0
      clear hr0 hc0 hu hl hn0
      go_enter Tryd.func14, Tryd.ntmps14
      go_wp2
      go_ret2
      exact ⟨_, rfl, Kd.R_nil _ _ _ _ _, Below.refl _ _⟩
    have c1 : decide (a1 < 0) = false := decide_eq_false hn0
    by_cases hn1 : 65536 < a1
    · rw [if_pos (.inr hn1)] at h
      injection h with h1 h2
      subst h1 h2
      have c2 : decide (65536 < a1) = true := decide_eq_true hn1
      clear hr0 hc0 hu hl hn0 hn1
      go_enter Tryd.func14, Tryd.ntmps14
      go_wp2
      go_ret2
      exact ⟨_, rfl, Kd.R_nil _ _ _ _ _, Below.refl _ _⟩
    have c2 : decide (65536 < a1) = false := decide_eq_false hn1
    rw [if_neg (by omega)] at h
    obtain ⟨n, rfl⟩ := Int.eq_ofNat_of_zero_le (show 0 ≤ a1 by omega)
    rw [Int.toNat_natCast] at h
    obtain ⟨ko, hko⟩ := (rOf_ev l0 hu (by omega)).get
    have H01 := Aside0.mk (unpack_01 l0)
    generalize unpack l0 = Lu at *
    have H := Aside0.mk h
    have HR := Aside0.mk hr0
    have HN := Aside0.mk (show n ≤ 65536 ∧ l0.length ≤ c0 ∧ l0.length < 2097152 from ⟨by omega, hc0, hl⟩)
    have HBY := Aside0.mk hu
    have HKO := Aside0.mk hko
    clear hr0 hc0 hu hl hn0 hn1 h hko
    go_enter Tryd.func14, Tryd.ntmps14
    go_wp2_with (fail)
    refine (casketref01_Of.calls ko A0 c0 l0 Lu _ HR.out HN.out.2.1 HKO.out).mono ?_
    rintro e w1 ⟨vu, rfl, ho, hb⟩
    obtain ⟨Au, qu, eu⟩ := Kd.R_slice ho
    subst eu
    have HO1 := Aside0.mk ho
    have HB1 := Aside0.mk hb
    clear ho hb
    go_wp2_with (first
      | ((with_reducible refine gate_dst (N := 23) rfl ?_); refine box_event ?hg (N := 23) ?hd (cs := #[.slice Au Lu.length qu, .int .i64 0]) (t := 63) ?hr ?_; (case hd => rfl); (case hg => rfl); (case hr => first | (go_simp; done) | (go_simp; rfl)); intro g hg w4 hbox hb; have HB4 := Aside0.mk (below_step HB1.out hb); have HI4 := Aside0.mk (show RdS w w4 g none Lu 0 from ⟨H01.out, by rw [hg]; exact (below_size HB1.out), Au, qu, hbox, Kd.V_below (Kd.V_map (Kd.V_mono (Kd.R_V (base' := 0) (Kd.R_bound HO1.out)) (ok' := fun k => k ≠ g ∧ some k ≠ none) (fun k hk => ⟨by rw [hg]; have := hk.2.2.1; omega, by simp⟩)) (fun _ h => h)) hb⟩); clear HO1 HB1 hbox hb hg))
    go_loopg [7, 8, 9, 10] n (fun kq v7 v8 v9 v10 W' => ∃ (i : Nat) (out l : List Int) (a z b : Int), v8 = .int .i64 a ∧ v9 = .int .i64 z ∧ v10 = .int .i64 (i : Int) ∧ kq = n - i ∧ i ≤ n ∧ Aside0 (LoopOK n Lu i out l a z b) ∧ Aside0 (RdS w W' g v7.ownBlock l b) ∧ Aside0 (Below w.heap.size w W') ∧ Aside0 (Kd.R (Kd.int .u64) 35 W' w.heap.size (fun _ => True) v7 out))
    case atStart => exact ⟨0, [], Lu, -1, -1, 0, rfl, rfl, rfl, rfl, Nat.zero_le _, ⟨.inl ⟨rfl, rfl, by simp, (-1, 0), .inl rfl, .inl ⟨rfl, rfl⟩, rfl⟩⟩, HI4, HB4, ⟨Kd.R_nil _ _ _ _ _⟩⟩
    case round =>
      clear HI4 HB4 c1 c2
      obtain ⟨i, out, l, a, z, b, rfl, rfl, rfl, rfl, hi, HL, HI, HB, HO⟩ := hrel
      have hcz1 := HI.out.cell0
      by_cases hb0 : b = 0
      · subst hb0
        obtain ⟨hlen, hu, p, hok, hrp, hgl⟩ : out.length = i ∧ (∀ x ∈ out, U x) ∧ (∃ p, okW p ∧ refP (a, z) p ∧ gLoop n [] (-1, 0) Lu = gLoop (n - i) out p l) := by
          rcases HL.out with h | h
          · exact h.2
          · exact absurd rfl h.1
        have HLEN := Aside0.mk hlen
        have HU := Aside0.mk hu
        have HOK := Aside0.mk hok
        have HRP := Aside0.mk hrp
        have HGL := Aside0.mk hgl
        have HI01 := Aside0.mk HI.out.1
        clear hlen hu hok hrp hgl HL
        by_cases hlt : i < n
        · have c3 : decide ((i : Int) < (n : Int)) = true := decide_eq_true (by omega)
          have c4 : decide (i < n) = true := decide_eq_true hlt
          have HW := Aside0.mk (show wrap64 ((i : Int) + 1) = ((i + 1 : Nat) : Int) from by have := HN.out; rw [wrap64_id (by omega) (by omega)]; omega)
          by_cases h0 : i = 0
          · have c5 : ((i : Int) == 0) = true := by rw [h0]; rfl
            have hout : out = [] := List.eq_nil_of_length_eq_zero (by rw [HLEN.out]; exact h0)
            obtain ⟨x, e1, l1, hr, h1, bb, d, k⟩ := rGet_facts HI01.out 64 (by decide)
            have HT := Aside0.mk (show gOne out p l = (x, e1, l1, p) from by
              unfold gOne
              rw [if_pos hout, show rGet l 64 = (x, e1, l1) from hr])
            have HR1 := Aside0.mk hr
            clear h0 hout hr h1 bb d k
            go_wp2_with (fail)
            refine (reader_get0 g l u7.ownBlock 64 (by decide) x e1 l1 w _ HI.out HB.out (Kd.R_lt HO.out) HR1.out).mono ?_
            rintro q w5 ⟨rfl, hi5, hb5, hk5⟩
            have HO5 := Aside0.mk (HI.out.R_keep HO.out hk5)
            have HI5 := Aside0.mk hi5
            have HB5 := Aside0.mk hb5
            clear hi5 hb5 hk5 HI HB HO hcz1
            obtain ⟨X, hX⟩ : ∃ X : Int, x = X := ⟨_, rfl⟩
            obtain ⟨A5, q5, e5⟩ := Kd.R_slice HO5.out
            have HPS := Aside0.mk (LoopOK.step (a := a) (z := z) (x := x) (b := e1) (l' := l1) hlt HLEN.out HU.out HOK.out HI01.out HGL.out HT.out ⟨rfl, fun _ => ⟨rfl, rfl, HRP.out⟩⟩)
            clear hX X
            subst e5
            have HNE := Aside0.mk (HI5.out.out_ne HO5.out)
            go_wp2_with (first
              | ((with_reducible refine gate_builtin (b := .append) (xs := #[.tmp 38, .tmp 41]) rfl ?_); at_builtin; refine Kd.R_append (Kd.int .u64) (w0 := w) w.heap.size rfl (.tmp 38) (.tmp 41) 22 35 (.int .u64 0) 8 rfl Tryd.underlying22 infoU rfl (by decide) (by omega) (.slice A5 out.length q5) out x [.int .u64 x] (fun _ => True) (fun _ => False) rfl rfl rfl (fun _ hk => hk.elim) (fun _ _ => trivial) HO5.out HB5.out HB5.out.size (by have := HN.out; have := HLEN.out; omega) ?_; intro v1 w9 ho hb hg hat; have HI9 := Aside0.mk (RdS.after (v := (.slice A5 out.length q5)) (v1 := v1) HI5.out HNE.out hg hat); have HB9 := Aside0.mk hb; have HO9 := Aside0.mk ho; clear ho hb hg hat))
            go_roundg (n - (i + 1))
            case measure => exact (by have := HN.out; omega)
            case rel =>
              rw [HW.out]
              exact ⟨i + 1, out ++ [x], l1, a, z, e1, rfl, rfl, rfl, rfl, hlt, HPS, HI9, HB9, HO9⟩
          · obtain ⟨j, hj⟩ : ∃ j, i = j + 1 := ⟨i - 1, by omega⟩
            have c5 : ((i : Int) == 0) = false := by rw [beq_eq_false_iff_ne]; omega
            have hlen := HLEN.out
            have hout : out ≠ [] := fun e => by rw [e] at hlen; simp at hlen; omega
            have HTO := Aside0.mk (show gOne out p l = (xw (gNx p l).1 (rd out (j : Int)), (gNx p l).2) from by
              unfold gOne
              rw [if_neg hout, show (out.length : Int) - 1 = (j : Int) by omega])
            obtain ⟨v1, e1, l1, hr1, h11, bb1, d1, k1⟩ := rGet_facts HI01.out 1 (by decide)
            have HR1 := Aside0.mk hr1
            have HF1 := Aside0.mk (show is01 l1 ∧ (v1 = 0 ∨ v1 = 1) ∧ (v1 = 1 → e1 = 0) from ⟨h11, by omega, fun h => by omega⟩)
            have HJ := Aside0.mk (show j < out.length from by omega)
            have hw1 : wrap64 ((i : Int) - 1) = (j : Int) := by have := HN.out; rw [wrap64_id (by omega) (by omega)]; omega
            clear h0 hj hout hlen hr1 h11 bb1 d1 k1
            go_wp2_with (fail)
            refine (reader_get0 g l u7.ownBlock 1 (by decide) v1 e1 l1 w _ HI.out HB.out (Kd.R_lt HO.out) HR1.out).mono ?_
            rintro q w5 ⟨rfl, hi5, hb5, hk5⟩
            have HO5 := Aside0.mk (HI.out.R_keep HO.out hk5)
            have HI5 := Aside0.mk hi5
            have HB5 := Aside0.mk hb5
            clear hi5 hb5 hk5 HI HB HO hcz1
            go_upto_if 45 with (fail)
            go_cut [8, 9, 11] (fun v8 v9 v11 wc => ∃ (a' z' x' b' : Int) (l' : List Int), v8 = .int .i64 a' ∧ v9 = .int .i64 z' ∧ v11 = .int .u64 x' ∧ Aside0 (Pass (gNx p l) a' z' x' l' b') ∧ Aside0 (RdS w wc g u7.ownBlock l' b') ∧ Aside0 (Below w.heap.size w wc) ∧ Aside0 (Kd.R (Kd.int .u64) 35 wc w.heap.size (fun _ => True) u7 out))
            case first =>
              by_cases hv1 : v1 = 1
              · have c6 : (v1 == 1) = true := by rw [hv1]; rfl
                have HE1 := Aside0.mk (HF1.out.2.2 hv1)
                have HNX := Aside0.mk (show gNx p l = gNo p l1 from by
                  unfold gNx
                  rw [show rGet l 1 = (v1, e1, l1) from HR1.out]
                  exact if_neg (fun h => h.elim (fun h => h HE1.out) (fun h => absurd (hv1.symm.trans h) (by decide))))
                obtain ⟨v2, e2, l2, hr2, h12, bb2, d2, k2⟩ := rGet_facts HF1.out.1 1 (by decide)
                have HR2 := Aside0.mk hr2
                have HF2 := Aside0.mk (show is01 l2 ∧ (v2 = 0 ∨ v2 = 1) ∧ (v2 = 1 → e2 = 0) from ⟨h12, by omega, fun h => by omega⟩)
                have HI6 := Aside0.mk (show RdS w w5 g u7.ownBlock l1 0 from by have := HI5.out; rw [HE1.out] at this; exact this)
                clear hv1 hr2 h12 bb2 d2 k2 HI5
                go_wp2_with (fail)
                refine (reader_get0 g l1 u7.ownBlock 1 (by decide) v2 e2 l2 w _ HI6.out HB5.out (Kd.R_lt HO5.out) HR2.out).mono ?_
                rintro q w6 ⟨rfl, hi6, hb6, hk6⟩
                have HO6 := Aside0.mk (HI6.out.R_keep HO5.out hk6)
                have HI7 := Aside0.mk hi6
                have HB6 := Aside0.mk hb6
                clear hi6 hb6 hk6 HI6 HB5 HO5
                go_upto_if 48 with (fail)
                go_cut [8, 9] (fun v8 v9 wc => ∃ (a' z' b' : Int) (l' : List Int), v8 = .int .i64 a' ∧ v9 = .int .i64 z' ∧ Aside0 (Mid (gNo p l1) a' z' l' b') ∧ Aside0 (RdS w wc g u7.ownBlock l' b') ∧ Aside0 (Below w.heap.size w wc) ∧ Aside0 (Kd.R (Kd.int .u64) 35 wc w.heap.size (fun _ => True) u7 out))
                case first =>
                  by_cases hv2 : v2 = 1
                  · have c7 : (v2 == 1) = true := by rw [hv2]; rfl
                    have HE2 := Aside0.mk (HF2.out.2.2 hv2)
                    obtain ⟨v5, e5, l5, hr5, h15, bb5, d5, k5⟩ := rGet_facts HF2.out.1 5 (by decide)
                    obtain ⟨v6, e6, l6, hr6, h16, bb6, d6, k6⟩ := rGet_facts h15 6 (by decide)
                    have HNO := Aside0.mk (show gNo p l1 = gNw p l2 from by
                      unfold gNo
                      rw [show rGet l1 1 = (v2, e2, l2) from HR2.out]
                      exact (if_neg (fun h => h HE2.out)).trans (if_pos hv2))
                    have HR5 := Aside0.mk hr5
                    have HR6 := Aside0.mk hr6
                    have hd5 : v5 < 32 := d5
                    have hd6 : v6 < 64 := d6
                    have HF5 := Aside0.mk (show 0 ≤ v5 ∧ v5 ≤ 31 ∧ 0 ≤ v6 ∧ v6 ≤ 63 from ⟨bb5, by omega, bb6, by omega⟩)
                    have hw5 : wrap64 v5 = v5 := wrap64_id (by omega) (by omega)
                    have hw6 : wrap64 v6 = v6 := wrap64_id (by omega) (by omega)
                    have hw7 : wrap64 (63 - v5) = 63 - v5 := wrap64_id (by omega) (by omega)
                    have hw8 : wrap64 (63 - v5 - v6) = 63 - v5 - v6 := wrap64_id (by omega) (by omega)
                    have HI6 := Aside0.mk (show RdS w w6 g u7.ownBlock l2 0 from by have := HI7.out; rw [HE2.out] at this; exact this)
                    clear hv2 hr5 h15 bb5 d5 k5 hr6 h16 bb6 d6 k6 hd5 hd6 HI7
                    go_wp2_with (fail)
                    refine (reader_get0 g l2 u7.ownBlock 5 (by decide) v5 e5 l5 w _ HI6.out HB6.out (Kd.R_lt HO6.out) HR5.out).mono ?_
                    rintro q w7 ⟨rfl, hi7, hb7, hk7⟩
                    have HO7 := Aside0.mk (HI6.out.R_keep HO6.out hk7)
                    have HI7 := Aside0.mk hi7
                    have HB7 := Aside0.mk hb7
                    clear hi7 hb7 hk7 HI6 HB6 HO6
                    go_wp2_with (fail)
                    refine (reader_get.calls g l5 e5 u7.ownBlock 6 (by decide) v6 e6 l6 w _ HI7.out HB7.out (Kd.R_lt HO7.out) HR6.out).mono ?_
                    rintro q w8 ⟨rfl, hi8, hb8, hk8⟩
                    have HO8 := Aside0.mk (HI7.out.R_keep HO7.out hk8)
                    have HI8 := Aside0.mk hi8
                    have HB8 := Aside0.mk hb8
                    clear hi8 hb8 hk8 HI7 HB7 HO7
                    have HMID := Aside0.mk (show Mid (gNo p l1) v5 (63 - v5 - v6) l6 (if e6 ≠ 0 ∧ e5 = 0 then e6 else e5) from by
                      rw [HNO.out]
                      exact mid_w HR5.out HR6.out HF5.out.1 HF5.out.2.1 HF5.out.2.2.1)
                    generalize (if e6 ≠ 0 ∧ e5 = 0 then e6 else e5) = b6 at *
                    go_wp2
                    go_meet
                    case rel =>
                      (try rw [hw8])
                      exact ⟨_, _, b6, l6, rfl, rfl, HMID, HI8, HB8, HO8⟩
                  · have c7 : (v2 == 1) = false := by rw [beq_eq_false_iff_ne]; exact hv2
                    have HMID := Aside0.mk (show Mid (gNo p l1) a z l2 e2 from by
                      exact mid_o HR2.out hv2 (refR_of HRP.out HOK.out))
                    clear hv2
                    go_wp2
                    go_meet
                    case rel => exact ⟨a, z, e2, l2, rfl, rfl, HMID, HI7, HB6, HO6⟩
                case rest =>
                  clear HI7 HB6 HO6
                  obtain ⟨a2, z2, b2, l3, rfl, rfl, HMID, HI, HB, HO⟩ := hcut
                  have hcz1 := HI.out.cell0
                  by_cases hb2 : b2 = 0
                  · subst hb2
                    obtain ⟨p2, hrr, hgr⟩ : ∃ p2, refR (a2, z2) p2 ∧ gNo p l1 = gNr p2 l3 := by
                      rcases HMID.out with h | h
                      · exact absurd rfl h.1
                      · exact h.2
                    have HRR := Aside0.mk hrr
                    have HGR := Aside0.mk hgr
                    clear hrr hgr HMID
                    have hfz1 := HI.out.froz
                    by_cases ha2 : a2 < 0
                    · have d1 : decide (a2 < 0) = true := decide_eq_true ha2
                      have HPS := Aside0.mk (show Pass (gNx p l) a2 z2 0 l3 3 from ⟨by rw [HNX.out, HGR.out]; exact gNr_bad HRR.out (.inl ha2), fun h => absurd h (by decide)⟩)
                      have HI8 := Aside0.mk (HI.out.set 3)
                      have HB8 := Aside0.mk (below_set (g := g) (j := 1) (v := .int .i64 3) HB.out HI.out.2.1)
                      have HO8 := Aside0.mk (HI.out.R_keep HO.out (keep_set _ g 1 (.int .i64 3)))
                      clear ha2 HI HB HO
                      go_wp2
                      go_meet
                      case rel => exact ⟨a2, z2, 0, 3, l3, rfl, rfl, rfl, HPS, HI8, HB8, HO8⟩
                    · have d1 : decide (a2 < 0) = false := decide_eq_false ha2
                      by_cases hz2 : z2 < 0
                      · have d2 : decide (z2 < 0) = true := decide_eq_true hz2
                        have HPS := Aside0.mk (show Pass (gNx p l) a2 z2 0 l3 3 from ⟨by rw [HNX.out, HGR.out]; exact gNr_bad HRR.out (.inr hz2), fun h => absurd h (by decide)⟩)
                        have HI8 := Aside0.mk (HI.out.set 3)
                        have HB8 := Aside0.mk (below_set (g := g) (j := 1) (v := .int .i64 3) HB.out HI.out.2.1)
                        have HO8 := Aside0.mk (HI.out.R_keep HO.out (keep_set _ g 1 (.int .i64 3)))
                        clear ha2 hz2 HI HB HO
                        go_wp2
                        go_meet
                        case rel => exact ⟨a2, z2, 0, 3, l3, rfl, rfl, rfl, HPS, HI8, HB8, HO8⟩
                      · have d2 : decide (z2 < 0) = false := decide_eq_false hz2
                        obtain ⟨zn, rfl⟩ := Int.eq_ofNat_of_zero_le (show 0 ≤ z2 by omega)
                        have hr31 : a2 ≤ 31 ∧ a2 + (zn : Int) ≤ 63 := by
                          rcases HRR.out with ⟨_, e⟩ | ⟨e, _⟩
                          · injection e with e _
                            omega
                          · exact e.2
                        obtain ⟨RW, hRW⟩ : ∃ RW : Nat, 64 - a2 - (zn : Int) = (RW : Int) := ⟨_, (Int.toNat_of_nonneg (by omega)).symm⟩
                        obtain ⟨v, e, l4, hr4, h14, bb4, d4, k4⟩ := rGet_facts HI.out.1 RW (by omega)
                        have HR4 := Aside0.mk hr4
                        have hsh : IntKind.u64.wrap (v * 2 ^ zn) = v * 2 ^ zn := shl_fit bb4 d4 (by omega)
                        have HPS := Aside0.mk (show Pass (gNx p l) a2 (zn : Int) (v * 2 ^ zn) l4 e from by
                          rw [HNX.out, HGR.out, gNr_good HRR.out (by omega) (by omega), hRW, hr4, Int.toNat_natCast]
                          exact ⟨rfl, fun _ => ⟨rfl, rfl, .inr ⟨by show 0 ≤ a2; omega, rfl⟩⟩⟩)
                        obtain ⟨X, hX⟩ : ∃ X : Int, v * 2 ^ zn = X := ⟨_, rfl⟩
                        rw [hX] at HPS hsh
                        have hr1 : wrap64 (64 - a2) = 64 - a2 := wrap64_id (by omega) (by omega)
                        have hr2 : wrap64 (64 - a2 - (zn : Int)) = (RW : Int) := by rw [wrap64_id (by omega) (by omega)]; omega
                        have hwz : IntKind.u64.wrap (zn : Int) = (zn : Int) := k64_id _ (by omega) (by omega)
                        have hz0 : (0 : Int) ≤ (zn : Int) := by omega
                        have hz1 : (zn : Int) ≤ 64 := by omega
                        have hz3 : zn ≤ 64 := by omega
                        have HRW := Aside0.mk (show RW ≤ 64 from by omega)
                        clear ha2 hz2 hr31 hRW hr4 h14 bb4 d4 k4
                        go_wp2_with (fail)
                        refine (reader_get0 g l3 u7.ownBlock RW HRW.out v e l4 w _ HI.out HB.out (Kd.R_lt HO.out) HR4.out).mono ?_
                        rintro q w8 ⟨rfl, hi8, hb8, hk8⟩
                        have HO8 := Aside0.mk (HI.out.R_keep HO.out hk8)
                        have HI8 := Aside0.mk hi8
                        have HB8 := Aside0.mk hb8
                        clear hi8 hb8 hk8 HI HB HO hcz1 hfz1
                        go_wp2
                        go_meet
                        case rel => exact ⟨a2, (zn : Int), X, e, l4, rfl, rfl, rfl, HPS, HI8, HB8, HO8⟩
                  · have cb2 : (b2 == 0) = false := by rw [beq_eq_false_iff_ne]; exact hb2
                    have HPS := Aside0.mk (show Pass (gNx p l) a2 z2 0 l3 b2 from by
                      rcases HMID.out with h | h
                      · exact ⟨by rw [HNX.out]; exact h.2, fun h' => absurd h' h.1⟩
                      · exact absurd h.1 hb2)
                    go_wp2
                    go_meet
                    case rel => exact ⟨a2, z2, 0, b2, l3, rfl, rfl, rfl, HPS, HI, HB, HO⟩
              · have c6 : (v1 == 1) = false := by rw [beq_eq_false_iff_ne]; exact hv1
                have HPS := Aside0.mk (show Pass (gNx p l) a z 0 l1 e1 from by
                  have : v1 = 0 := HF1.out.2.1.resolve_right hv1
                  unfold gNx
                  rw [show rGet l 1 = (v1, e1, l1) from HR1.out, if_pos (.inr this)]
                  exact ⟨rfl, fun _ => ⟨rfl, rfl, HRP.out⟩⟩)
                clear hv1
                go_wp2
                go_meet
                case rel => exact ⟨a, z, 0, e1, l1, rfl, rfl, rfl, HPS, HI5, HB5, HO5⟩
            case rest =>
              clear HI5 HB5 HO5
              obtain ⟨a', z', x', b', l', rfl, rfl, rfl, HPA, HI5, HB5, HO5⟩ := hcut
              obtain ⟨X, hX⟩ : ∃ X : Int, xw x' (rd out (j : Int)) = X := ⟨_, rfl⟩
              have HPS := Aside0.mk (LoopOK.step (a := a') (z := z') (x := X) (b := b') (l' := l') hlt HLEN.out HU.out HOK.out HI01.out HGL.out HTO.out ⟨HPA.out.1, fun h => ⟨by rw [← hX, ← (HPA.out.2 h).1], (HPA.out.2 h).2.1, (HPA.out.2 h).2.2⟩⟩)
              have hdx : Go.bits .xor .u64 x' (rd out (j : Int)) = X := hX
              clear hX
              obtain ⟨A5, q5, e5⟩ := Kd.R_slice HO5.out
              subst e5
              obtain ⟨ad5, e6, hx5⟩ := Kd.at_int (Kd.R_reads' HO5.out).2.2 (j : Int) (by omega) (by have := HJ.out; omega)
              subst e6
              rw [Int.toNat_natCast] at hx5
              have c7 : decide ((j : Int) < (out.length : Int)) = true := decide_eq_true (by have := HJ.out; omega)
              have c9 : j < out.length := HJ.out
              have HNE := Aside0.mk (HI5.out.out_ne HO5.out)
              go_wp2_with (first
                | ((with_reducible refine gate_builtin (b := .append) (xs := #[.tmp 88, .tmp 96]) rfl ?_); at_builtin; refine Kd.R_append (Kd.int .u64) (w0 := w) w.heap.size rfl (.tmp 88) (.tmp 96) 22 35 (.int .u64 0) 8 rfl Tryd.underlying22 infoU rfl (by decide) (by omega) (.slice (some ad5) out.length q5) out X [.int .u64 X] (fun _ => True) (fun _ => False) rfl rfl rfl (fun _ hk => hk.elim) (fun _ _ => trivial) HO5.out HB5.out HB5.out.size (by have := HN.out; have := HLEN.out; omega) ?_; intro v1 w9 ho hb hg hat; have HI9 := Aside0.mk (RdS.after (v := (.slice (some ad5) out.length q5)) (v1 := v1) HI5.out HNE.out hg hat); have HB9 := Aside0.mk hb; have HO9 := Aside0.mk ho; clear ho hb hg hat))
              go_roundg (n - (i + 1))
              case measure => exact (by have := HN.out; omega)
              case rel =>
                rw [HW.out]
                exact ⟨i + 1, out ++ [X], l', a', z', b', rfl, rfl, rfl, rfl, hlt, HPS, HI9, HB9, HO9⟩
        · have c3 : decide ((i : Int) < (n : Int)) = false := decide_eq_false (by omega)
          have c4 : decide (i < n) = false := decide_eq_false hlt
          obtain rfl : i = n := by omega
          have hL := HGL.out
          rw [Nat.sub_self, gLoop] at hL
          have HL := Aside0.mk hL
          have hH := H.out
          rw [hL, gEnd, if_neg (fun h => h rfl)] at hH
          have HH := Aside0.mk (show (if pack (gB out out.length) = l0 then (out, 0) else ([], 3)) = (r1, r2) from hH)
          have HEN := Aside0.mk (show casketref09_Encode.f out = some (pack (gB out out.length), 0) from by
            unfold casketref09_Encode.f
            rw [if_pos ⟨HU.out, by have := HLEN.out; have := HN.out; omega⟩, gEnc, if_neg (by have := HLEN.out; have := HN.out; omega)])
          clear hL hH
          obtain ⟨A5, q5, e5⟩ := Kd.R_slice HO.out
          subst e5
          have HRO := Aside0.mk (Kd.R_reads' HO.out)
          go_wp2_with (fail)
          refine (casketref09_Encode.calls A5 q5 out _ 0 _ HRO.out.2.2 HRO.out.2.1 HEN.out).mono ?_
          rintro q w5 ⟨vE, rfl, hrE, hbE⟩
          obtain ⟨AE, cE, eE⟩ := Kd.R_slice hrE
          subst eE
          have HE5 := Aside0.mk (Kd.R_reads' hrE)
          have HB5 := Aside0.mk (below_step HB.out hbE)
          have HO5 := Aside0.mk (Kd.R_below HO.out hbE)
          have HL5 := Aside0.mk (Kd.C_below HR.out HB5.out)
          obtain ⟨PK, hPK⟩ : ∃ PK : List Int, pack (gB out out.length) = PK := ⟨_, rfl⟩
          have HPL := Aside0.mk (show PK.length < 140737488355328 from by
            rw [← hPK, pack_length]
            have := gB_room2 HU.out (by have := HLEN.out; have := HN.out; omega) (Nat.le_refl _)
            omega)
          rw [hPK] at HE5 HH ⊢
          obtain ⟨ks, hks⟩ := (Same1_ev PK l0 HPL.out).get
          have HKS := Aside0.mk hks
          clear hbE hrE HB HO HRO HEN hPK hks
          go_wp2_with (fail)
          refine (casketref01_Same.calls ks AE cE PK A0 c0 l0 (decide (PK = l0)) _ HE5.out.2.2 HE5.out.2.1 HL5.out HN.out.2.1 HKS.out).mono ?_
          rintro q w6 ⟨rfl, hb6⟩
          have HB6 := Aside0.mk (below_step HB5.out hb6.below)
          have HO6 := Aside0.mk (Kd.R_below HO5.out hb6.below)
          clear hb6 HB5 HO5 HL5 HE5
          by_cases hp : PK = l0
          · have hd : decide (PK = l0) = true := decide_eq_true hp
            have HE := Aside0.mk (show r1 = out ∧ r2 = 0 from by
              have hH := HH.out
              rw [if_pos hp] at hH
              injection hH with q1 q2
              exact ⟨q1.symm, q2.symm⟩)
            rw [hd]
            clear hp hd
            go_wp2
            go_ret2
            rw [HE.out.1, HE.out.2]
            exact ⟨_, rfl, HO6.out, HB6.out⟩
          · have hd : decide (PK = l0) = false := decide_eq_false hp
            have HE := Aside0.mk (show r1 = [] ∧ r2 = 3 from by
              have hH := HH.out
              rw [if_neg hp] at hH
              injection hH with q1 q2
              exact ⟨q1.symm, q2.symm⟩)
            rw [hd]
            clear hp hd
            go_wp2
            go_ret2
            rw [HE.out.1, HE.out.2]
            exact ⟨_, rfl, Kd.R_nil _ _ _ _ _, HB6.out⟩
      · have cb0 : (b == 0) = false := by rw [beq_eq_false_iff_ne]; exact hb0
        have cb1 : (b != 0) = true := by rw [bne, cb0]; rfl
        have HE := Aside0.mk (show r1 = [] ∧ r2 = b from by
          rcases HL.out with h | h
          · exact absurd h.1 hb0
          · have hH := H.out
            rw [h.2, gEnd, if_pos hb0] at hH
            injection hH with q1 q2
            exact ⟨q1.symm, q2.symm⟩)
        by_cases hlt : i < n
        · have c3 : decide ((i : Int) < (n : Int)) = true := decide_eq_true (by omega)
          have c4 : decide (i < n) = true := decide_eq_true hlt
          go_upto_region 23 with (fail)
          refine start_ (n := 6) (S := fun w' => w'.cell? ⟨g, 1, none⟩ = some (.int .i64 b)) (ds := []) #[false, false, false, false, false, false] (by kernel_rfl) rfl rfl (hcz1) (fun hHeld => ?_)
          refine pure_ (i := 0) (N := some 103) (v := ?_) (a' := ?_) #[true, false, false, false, false, false] rfl rfl (by kernel_rfl) (fun _ _ _ h => h) (Or.inl ⟨by rfl, ?_⟩) ?_ ?_
          rotate_left
          · intro w'
            go_simp
            with_reducible rfl
          rotate_left
          · simp only [Act.put, List.setIfInBounds_toArray, List.set_cons_zero, List.set_cons_succ, i64_w, i32_w]
            rfl
          refine pure_ (i := 1) (N := some 104) (v := ?_) (a' := ?_) #[true, true, false, false, false, false] rfl rfl (by kernel_rfl) (fun _ _ _ h => h) (Or.inl ⟨by rfl, ?_⟩) ?_ ?_
          rotate_left
          · intro w'
            go_simp
            with_reducible rfl
          rotate_left
          · simp only [Act.put, List.setIfInBounds_toArray, List.set_cons_zero, List.set_cons_succ, i64_w, i32_w]
            rfl
          refine pure_ (i := 2) (N := some 105) (v := ?_) (a' := ?_) #[true, true, true, false, false, false] rfl rfl (by kernel_rfl) (fun _ _ _ h => h) (Or.inl ⟨by rfl, ?_⟩) ?_ ?_
          rotate_left
          · intro w'
            go_simp
            with_reducible rfl
          rotate_left
          · simp only [Act.put, List.setIfInBounds_toArray, List.set_cons_zero, List.set_cons_succ, i64_w, i32_w]
            rfl
          refine pure_ (i := 4) (N := some 4) (v := ?_) (a' := ?_) #[true, true, true, false, true, false] rfl rfl (by kernel_rfl) (fun _ _ _ h => h) (Or.inl ⟨by rfl, ?_⟩) ?_ ?_
          rotate_left
          · intro w'
            go_simp
            with_reducible rfl
          rotate_left
          · simp only [Act.put, List.setIfInBounds_toArray, List.set_cons_zero, List.set_cons_succ, i64_w, i32_w]
            rfl
          refine take_ (i := 3) (N := some 106) (v := ?_) (a' := ?_) #[true, true, true, true, true, false] rfl rfl (by kernel_rfl) (fun _ _ _ h => h) (Or.inl ⟨by rfl, ?_⟩) hHeld ?_ ?_
          rotate_left
          · intro w' s0
            go_simp
            with_reducible rfl
          rotate_left
          · simp only [Act.put, List.setIfInBounds_toArray, List.set_cons_zero, List.set_cons_succ, i64_w, i32_w]
            rfl
          refine pure_ (i := 5) (N := some 5) (v := ?_) (a' := ?_) #[true, true, true, true, true, true] rfl rfl (by kernel_rfl) (fun _ _ _ h => h) (Or.inl ⟨by rfl, ?_⟩) ?_ ?_
          rotate_left
          · intro w'
            go_simp
            with_reducible rfl
          rotate_left
          · simp only [Act.put, List.setIfInBounds_toArray, List.set_cons_zero, List.set_cons_succ, i64_w, i32_w]
            rfl
          refine done_ (by kernel_rfl) ?_

          go_wp2
          go_ret2
          rw [HE.out.1, HE.out.2]
          exact ⟨_, rfl, Kd.R_nil _ _ _ _ _, by first | exact HB.out | exact below_drew1 HB.out | exact pw_below_drewN HB.out _⟩
        · have c3 : decide ((i : Int) < (n : Int)) = false := decide_eq_false (by omega)
          have c4 : decide (i < n) = false := decide_eq_false hlt
          go_upto_region 23 with (fail)
          refine start_ (n := 6) (S := fun w' => w'.cell? ⟨g, 1, none⟩ = some (.int .i64 b)) (ds := []) #[false, false, false, false, false, false] (by kernel_rfl) rfl rfl (hcz1) (fun hHeld => ?_)
          refine pure_ (i := 0) (N := some 103) (v := ?_) (a' := ?_) #[true, false, false, false, false, false] rfl rfl (by kernel_rfl) (fun _ _ _ h => h) (Or.inl ⟨by rfl, ?_⟩) ?_ ?_
          rotate_left
          · intro w'
            go_simp
            with_reducible rfl
          rotate_left
          · simp only [Act.put, List.setIfInBounds_toArray, List.set_cons_zero, List.set_cons_succ, i64_w, i32_w]
            rfl
          refine pure_ (i := 1) (N := some 104) (v := ?_) (a' := ?_) #[true, true, false, false, false, false] rfl rfl (by kernel_rfl) (fun _ _ _ h => h) (Or.inl ⟨by rfl, ?_⟩) ?_ ?_
          rotate_left
          · intro w'
            go_simp
            with_reducible rfl
          rotate_left
          · simp only [Act.put, List.setIfInBounds_toArray, List.set_cons_zero, List.set_cons_succ, i64_w, i32_w]
            rfl
          refine pure_ (i := 2) (N := some 105) (v := ?_) (a' := ?_) #[true, true, true, false, false, false] rfl rfl (by kernel_rfl) (fun _ _ _ h => h) (Or.inl ⟨by rfl, ?_⟩) ?_ ?_
          rotate_left
          · intro w'
            go_simp
            with_reducible rfl
          rotate_left
          · simp only [Act.put, List.setIfInBounds_toArray, List.set_cons_zero, List.set_cons_succ, i64_w, i32_w]
            rfl
          refine pure_ (i := 4) (N := some 4) (v := ?_) (a' := ?_) #[true, true, true, false, true, false] rfl rfl (by kernel_rfl) (fun _ _ _ h => h) (Or.inl ⟨by rfl, ?_⟩) ?_ ?_
          rotate_left
          · intro w'
            go_simp
            with_reducible rfl
          rotate_left
          · simp only [Act.put, List.setIfInBounds_toArray, List.set_cons_zero, List.set_cons_succ, i64_w, i32_w]
            rfl
          refine take_ (i := 3) (N := some 106) (v := ?_) (a' := ?_) #[true, true, true, true, true, false] rfl rfl (by kernel_rfl) (fun _ _ _ h => h) (Or.inl ⟨by rfl, ?_⟩) hHeld ?_ ?_
          rotate_left
          · intro w' s0
            go_simp
            with_reducible rfl
          rotate_left
          · simp only [Act.put, List.setIfInBounds_toArray, List.set_cons_zero, List.set_cons_succ, i64_w, i32_w]
            rfl
          refine pure_ (i := 5) (N := some 5) (v := ?_) (a' := ?_) #[true, true, true, true, true, true] rfl rfl (by kernel_rfl) (fun _ _ _ h => h) (Or.inl ⟨by rfl, ?_⟩) ?_ ?_
          rotate_left
          · intro w'
            go_simp
            with_reducible rfl
          rotate_left
          · simp only [Act.put, List.setIfInBounds_toArray, List.set_cons_zero, List.set_cons_succ, i64_w, i32_w]
            rfl
          refine done_ (by kernel_rfl) ?_

          go_wp2
          go_ret2
          rw [HE.out.1, HE.out.2]
          exact ⟨_, rfl, Kd.R_nil _ _ _ _ _, by first | exact HB.out | exact below_drew1 HB.out | exact pw_below_drewN HB.out _⟩
end Go.Proofs.YtfpnoceppjjafaaDoor.P
