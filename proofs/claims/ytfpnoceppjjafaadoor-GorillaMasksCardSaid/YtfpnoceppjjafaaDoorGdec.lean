/- gorilla.Decode: its contract. -/
import Derived.Test.YtfpnoceppjjafaaDoorGenc
import Derived.Test.YtfpnoceppjjafaaDoorGnext
import Derived.WalkMore
import Derived.Test.YtfpnoceppjjafaaDoorPx5
namespace Go.Proofs.YtfpnoceppjjafaaDoor.P
open Go.RowKit Go.Proofs.YtfpnoceppjjafaaDoor.Kit Go.Proofs.YtfpnoceppjjafaaDoorW.PrintWords Go.Proofs.YtfpnoceppjjafaaDoorW.PrintLast Go.Proofs.YtfpnoceppjjafaaDoorW.PrintMore
set_option linter.unusedVariables false
set_option linter.unusedSimpArgs false

/-- The next number: what it is, why not, what is left, the window. -/
def gOne (out : List Int) (p : Int × Int) (s : List Int) : Int × Int × List Int × Int × Int :=
  if out = [] then ((rGet s 64).1, (rGet s 64).2.1, (rGet s 64).2.2, p)
  else (xw (gNx p s).1 (rd out ((out.length : Int) - 1)), (gNx p s).2)
def gLoop : Nat → List Int → Int × Int → List Int → List Int × Int
  | 0, out, _, _ => (out, 0)
  | n + 1, out, p, s => if (gOne out p s).2.1 ≠ 0 then ([], (gOne out p s).2.1) else gLoop n (out ++ [(gOne out p s).1]) (gOne out p s).2.2.2 (gOne out p s).2.2.1
def gEnd (b : List Int) (t : List Int × Int) : List Int × Int := if t.2 ≠ 0 then ([], t.2) else if pack (gB t.1 t.1.length) = b then (t.1, 0) else ([], 3)
def gDec (b : List Int) (n : Int) : List Int × Int := if n < 0 ∨ 65536 < n then ([], 1) else gEnd b (gLoop n.toNat [] (-1, 0) (unpack b))
def gorilla_Decode.f (b : List Int) (n : Int) : Option (List Int × Int) := if (∀ x ∈ b, 0 ≤ x ∧ x < 256) ∧ b.length < 2097152 then some (gDec b n) else none
theorem R_kept2 {w0 w w' : World} {g gw t : Nat} {f0 : List Int} {cs : Array Value} {α : Type} {d : Kd α} {e : Nat} {base : Nat} {ok : Nat → Prop} {v : Value} {xs : List α} (hI : IsS70 w0 w g f0) (hG : w.heap[gw]? = some (.cells cs t (0, 0))) (ho : d.R e w base ok v xs) (h1 : ∀ q, q ∈ e :: d.E → q ≠ 70) (h2 : ∀ q, q ∈ e :: d.E → q ≠ t) (hk : Kept2 w w' g gw) : d.R e w' base ok v xs :=
  Kd.R_mono (Kd.R_step (hI.apart (Kd.R_types ho hG h2) h1) (fun k ho hlt => hk.2 k hlt ho.2 ho.1.2)) (fun _ h => h.1.1)
/-- A window as it may come up while one reads. -/
def okR (p : Int × Int) : Prop := p = (-1, 0) ∨ 0 ≤ p.1 ∧ p.1 ≤ 31 ∧ p.1 + p.2 ≤ 63
theorem okR_of {p : Int × Int} (h : okW p) : okR p := h.imp id fun h => ⟨h.1, h.2.1, h.2.2.2⟩
theorem gNr_facts {p : Int × Int} {s : List Int} (hp : okR p) (h01 : is01 s) : is01 (gNr p s).2.2.1 ∧ ((gNr p s).2.1 = 0 → U (gNr p s).1 ∧ okW (gNr p s).2.2.2) := by
  unfold gNr
  split
  · exact ⟨h01, fun h => by simp at h⟩
  · next hn =>
    have hw : 0 ≤ p.1 ∧ p.1 ≤ 31 ∧ 0 ≤ p.2 ∧ p.1 + p.2 ≤ 63 := by
      rcases hp with e | e
      · exact absurd (.inl e) hn
      · have : ¬ p.2 < 0 := fun h => hn (.inr h)
        omega
    obtain ⟨RW, hRW⟩ : ∃ RW : Nat, 64 - p.1 - p.2 = (RW : Int) := ⟨_, (Int.toNat_of_nonneg (by omega)).symm⟩
    obtain ⟨zn, hzn⟩ : ∃ zn : Nat, p.2 = (zn : Int) := ⟨_, (Int.toNat_of_nonneg (by omega)).symm⟩
    obtain ⟨v, e, s', hr, h1, b, d, k⟩ := rGet_facts h01 RW (by omega)
    rw [hRW, hr, hzn, Int.toNat_natCast]
    refine ⟨h1, fun _ => ⟨?_, .inr hw⟩⟩
    have hf := shl_fit b d (show RW + zn ≤ 64 by omega)
    obtain ⟨n, rfl⟩ := Int.eq_ofNat_of_zero_le b
    have e' : (n : Int) * 2 ^ zn = ((n * 2 ^ zn : Nat) : Int) := by norm_cast
    rw [wrapu64] at hf
    unfold U
    rw [e'] at hf ⊢
    show 0 ≤ ((n * 2 ^ zn : Nat) : Int) ∧ ((n * 2 ^ zn : Nat) : Int) ≤ _
    generalize n * 2 ^ zn = q at *
    omega
theorem gNx_facts {p : Int × Int} {s : List Int} (hp : okW p) (h01 : is01 s) : is01 (gNx p s).2.2.1 ∧ ((gNx p s).2.1 = 0 → U (gNx p s).1 ∧ okW (gNx p s).2.2.2) := by
  have U0 : U 0 := ⟨by decide, by decide⟩
  obtain ⟨v1, e1, s1, hr1, h1, b1, d1, k1⟩ := rGet_facts h01 1 (by decide)
  unfold gNx
  rw [show rGet s 1 = (v1, e1, s1) from hr1]
  split
  · exact ⟨h1, fun _ => ⟨U0, hp⟩⟩
  · unfold gNo
    obtain ⟨v2, e2, s2, hr2, h2, b2, d2, k2⟩ := rGet_facts h1 1 (by decide)
    rw [show rGet s1 1 = (v2, e2, s2) from hr2]
    split
    · exact ⟨h2, fun _ => ⟨U0, hp⟩⟩
    · split
      · unfold gNw
        obtain ⟨v3, e3, s3, hr3, h3, b3, d3, k3⟩ := rGet_facts h2 5 (by decide)
        obtain ⟨v4, e4, s4, hr4, h4, b4, d4, k4⟩ := rGet_facts h3 6 (by decide)
        rw [show rGet s2 5 = (v3, e3, s3) from hr3, show rGet s3 6 = (v4, e4, s4) from hr4]
        split
        · exact ⟨h3, fun _ => ⟨U0, hp⟩⟩
        · split
          · exact ⟨h4, fun _ => ⟨U0, hp⟩⟩
          · have d3' : v3 < 32 := d3
            exact gNr_facts (.inr ⟨b3, by show v3 ≤ 31; omega, by show v3 + (63 - v3 - v4) ≤ 63; omega⟩) h4
      · exact gNr_facts (okR_of hp) h2
theorem gOne_facts {out : List Int} {p : Int × Int} {s : List Int} (ho : ∀ x ∈ out, U x) (hp : okW p) (h01 : is01 s) : is01 (gOne out p s).2.2.1 ∧ ((gOne out p s).2.1 = 0 → U (gOne out p s).1 ∧ okW (gOne out p s).2.2.2) := by
  unfold gOne
  split
  · obtain ⟨v1, e1, s1, hr1, h1, b1, d1, k1⟩ := rGet_facts h01 64 (by decide)
    rw [show rGet s 64 = (v1, e1, s1) from hr1]
    exact ⟨h1, fun _ => ⟨⟨b1, by have : v1 < 18446744073709551616 := d1; show v1 ≤ _; omega⟩, hp⟩⟩
  · next hn =>
    have hf := gNx_facts hp h01
    have hl : 0 < out.length := List.length_pos_iff.2 hn
    exact ⟨hf.1, fun h => ⟨xw_U (hf.2 h).1 (ho _ (rd_mem out ((out.length : Int) - 1) (by omega) (by omega))), (hf.2 h).2⟩⟩
theorem map_u8 (a : List Int) : ∀ b : List Int, (∀ x ∈ a, 0 ≤ x ∧ x < 256) → (∀ x ∈ b, 0 ≤ x ∧ x < 256) → (a.map fun n => UInt8.ofNat n.toNat) = (b.map fun n => UInt8.ofNat n.toNat) → a = b := by
  induction a with
  | nil =>
    intro b _ _ h
    cases b with
    | nil => rfl
    | cons y b => simp at h
  | cons x a ih =>
    intro b ha hb h
    cases b with
    | nil => simp at h
    | cons y b =>
      rw [List.map_cons, List.map_cons] at h
      injection h with h1 h2
      have hx := ha x (by simp)
      have hy := hb y (by simp)
      have h3 := congrArg UInt8.toNat h1
      rw [UInt8.toNat_ofNat', UInt8.toNat_ofNat'] at h3
      rw [ih b (fun z hz => ha z (List.mem_cons_of_mem _ hz)) (fun z hz => hb z (List.mem_cons_of_mem _ hz)) h2, show x = y by omega]
theorem str_eq (a b : List Int) (ha : ∀ x ∈ a, 0 ≤ x ∧ x < 256) (hb : ∀ x ∈ b, 0 ≤ x ∧ x < 256) : ((strOfNums a).toList == (strOfNums b).toList) = decide (a = b) := by
  rw [Lib.toList_data, Lib.toList_data, strOfNums_data, strOfNums_data]
  by_cases c : a = b
  · rw [c]
    simp
  · rw [decide_eq_false c]
    refine beq_eq_false_iff_ne.2 fun h => c (map_u8 a b ha hb h)
theorem infoU : (Tryd.prog.info? 35).map (fun i => (i.zero, i.size, i.bytes)) = some (some (.int .u64 0), 1, 8) := by kernel_rfl
set_option maxHeartbeats 4000000 in
set_option maxRecDepth 100000 in
theorem gorilla_Decode.calls (A0 : Option Addr) (c0 : Nat) (l0 : List Int) (a1 : Int) (r1 : List Int) (r2 : Int) (w : World) (hr0 : Kd.C (Kd.int .u8) w A0 l0.length l0) (hc0 : l0.length ≤ c0) (h : gorilla_Decode.f l0 a1 = some (r1, r2)) (hT : Tab w := by first | assumption | exact Aside0.out ‹Aside0 (Tab _)› | exact Tab.below (Aside0.out ‹Aside0 (Tab _)›) (by repeat (first | (with_reducible first | exact Aside0.out ‹Aside0 (Below _ _ _)› | apply below_alloc | apply pw_below_drewN | apply below_drew1)))) :
    Calls Tryd.prog 13 #[.slice A0 l0.length c0, .int .i64 a1] w fun e w' => ∃ v0_ : Value, e = .returned (.tuple #[v0_, .int .i64 r2]) ∧ Kd.R (Kd.int .u64) 35 w' w.heap.size (fun _ => True) v0_ r1 ∧ Below w.heap.size w w' := by
  unfold gorilla_Decode.f at h
  split at h
  case isFalse => cases h
  case isTrue hc =>
    injection h with h
    unfold gDec at h
    obtain ⟨hu, hl⟩ := hc
    by_cases hn0 : a1 < 0
    · rw [if_pos (.inl hn0)] at h
      injection h with h1 h2
      subst h1 h2
      have c1 : decide (a1 < 0) = true := decide_eq_true hn0
      clear hr0 hc0 hu hl hn0 hT
      go_enter Tryd.func13, Tryd.ntmps13
      go_wp2
      go_ret2
      exact ⟨_, rfl, Kd.R_nil _ _ _ _ _, Below.refl _ _⟩
    have c1 : decide (a1 < 0) = false := decide_eq_false hn0
    by_cases hn1 : 65536 < a1
    · rw [if_pos (.inr hn1)] at h
      injection h with h1 h2
      subst h1 h2
      have c2 : decide (65536 < a1) = true := decide_eq_true hn1
      clear hr0 hc0 hu hl hn0 hn1 hT
      go_enter Tryd.func13, Tryd.ntmps13
      go_wp2
      go_ret2
      exact ⟨_, rfl, Kd.R_nil _ _ _ _ _, Below.refl _ _⟩
    have c2 : decide (65536 < a1) = false := decide_eq_false hn1
    rw [if_neg (by omega)] at h
    obtain ⟨n, rfl⟩ := Int.eq_ofNat_of_zero_le (show 0 ≤ a1 by omega)
    rw [Int.toNat_natCast] at h
    have H := Aside0.mk h
    have HR := Aside0.mk hr0
    have HN := Aside0.mk (show n ≤ 65536 ∧ l0.length ≤ c0 ∧ l0.length < 2097152 from ⟨by omega, hc0, hl⟩)
    have HT := Aside0.mk hT
    have HBY := Aside0.mk hu
    have HNR := Aside0.mk (show bits_NewReader.f l0 = some (unpack l0) from if_pos ⟨hu, hl⟩)
    have hu42 := Tryd.underlying42
    clear hr0 hc0 hu hl hn0 hn1 h hT
    go_enter Tryd.func13, Tryd.ntmps13
    go_wp2_with (fail)
    refine (bits_NewReader.calls A0 c0 l0 _ w _ (Below.refl _ _) HR.out HN.out.2.1 HNR.out).mono ?_
    rintro e w1 ⟨g, rfl, hi, hb, _⟩
    have HI1 := Aside0.mk hi
    have HB1 := Aside0.mk hb
    clear hi hb
    go_wp2_with (fail)
    refine (gorilla_none.calls (-1) 0 _ rfl).mono ?_
    rintro e w2 ⟨rfl, hb⟩
    have HI2 := Aside0.mk (HI1.out.below hb)
    have HB2 := Aside0.mk (below_step HB1.out hb)
    clear hb
    go_wp2_with (first
      | ((with_reducible refine gate_dst (N := 7) rfl ?_); refine box_event ?hg (N := 7) ?hd (cs := #[.int .i64 0, .int .i64 0]) (t := 42) ?hr ?_; (case hd => rfl); (case hg => rfl); (case hr => first | (go_simp; done) | (go_simp; rfl)); intro gw hg w4 hbox hb; have HI4 := Aside0.mk (HI2.out.below hb); have HB4 := Aside0.mk (below_step HB2.out hb); have BK := Aside0.mk hbox; have GE := Aside0.mk ((by rw [hg]; exact (below_size HB2.out)) : w.heap.size ≤ gw); clear HI1 HB1 HI2 HB2 hbox hb hg; have hcz0 : w4.cell? ⟨gw, 0, none⟩ = some (.int .i64 0) := (blk_cell BK.out 0).trans rfl; have hcz1 : w4.cell? ⟨gw, 1, none⟩ = some (.int .i64 0) := (blk_cell BK.out 1).trans rfl; have hfz0 := blk_frozen BK.out 0; have hfz1 := blk_frozen BK.out 1))
    have HW0 := Aside0.mk (show ((w4.setCell ⟨gw, 0, none⟩ (.int .i64 (-1))).setCell ⟨gw, 1, none⟩ (.int .i64 0)).heap[gw]? = some (.cells #[.int .i64 (-1), .int .i64 0] 42 (0, 0)) from by
      refine blk_put (cs := #[.int .i64 (-1), .int .i64 0]) ?_ 1 _ rfl
      refine blk_put (cs := #[.int .i64 0, .int .i64 0]) ?_ 0 _ rfl
      exact BK.out)
    have HI0 := Aside0.mk (IsS70.set (IsS70.set HI4.out BK.out (by decide) 0 (.int .i64 (-1))) (blk_put (cs' := #[.int .i64 (-1), .int .i64 0]) BK.out 0 _ rfl) (by decide) 1 (.int .i64 0))
    have HB0 := Aside0.mk (show Below w.heap.size w ((w4.setCell ⟨gw, 0, none⟩ (.int .i64 (-1))).setCell ⟨gw, 1, none⟩ (.int .i64 0)) from below_set (below_set HB4.out GE.out) GE.out)
    clear HB4 HI4 c1 c2 hcz0 hcz1 hfz0 hfz1 BK
    go_loopg [8, 24] n (fun kq v8 v24 W' => ∃ (i : Nat) (out s : List Int) (a z : Int), v24 = .int .i64 (i : Int) ∧ kq = n - i ∧ i ≤ n ∧ Aside0 (out.length = i ∧ (∀ x ∈ out, U x) ∧ okW (a, z) ∧ is01 s ∧ gLoop n [] (-1, 0) (unpack l0) = gLoop (n - i) out (a, z) s) ∧ Aside0 (IsS70 w W' g s) ∧ Aside0 (Below w.heap.size w W') ∧ Aside0 (W'.heap[gw]? = some (.cells #[.int .i64 a, .int .i64 z] 42 (0, 0))) ∧ Aside0 (Kd.R (Kd.int .u64) 35 W' w.heap.size (fun _ => True) v8 out))
    case atStart => exact ⟨0, [], unpack l0, -1, 0, rfl, rfl, Nat.zero_le _, ⟨rfl, by simp, .inl rfl, unpack_01 _, rfl⟩, HI0, HB0, HW0, ⟨Kd.R_nil _ _ _ _ _⟩⟩
    case round =>
      clear HI0 HB0 HW0
      obtain ⟨i, out, s, a, z, rfl, rfl, hi, HS, HI, HB, HG, HO⟩ := hrel
      by_cases hlt : i < n
      · have c3 : decide ((i : Int) < (n : Int)) = true := decide_eq_true (by omega)
        have c4 : decide (i < n) = true := decide_eq_true hlt
        have HW := Aside0.mk (show wrap64 ((i : Int) + 1) = ((i + 1 : Nat) : Int) from by have := HN.out; rw [wrap64_id (by omega) (by omega)]; omega)
        by_cases h0 : i = 0
        · have c5 : ((i : Int) == 0) = true := by rw [h0]; rfl
          have hout : out = [] := List.eq_nil_of_length_eq_zero (by rw [HS.out.1]; exact h0)
          obtain ⟨x, e1, s', hr, h1, b, d, k⟩ := rGet_facts HS.out.2.2.2.1 64 (by decide)
          obtain ⟨p', hp'⟩ : ∃ p' : Int × Int, p' = (a, z) := ⟨_, rfl⟩
          have hone : gOne out (a, z) s = (x, e1, s', p') := by
            unfold gOne
            rw [if_pos hout, show rGet s 64 = (x, e1, s') from hr, hp']
          have HOF := Aside0.mk (gOne_facts HS.out.2.1 HS.out.2.2.1 HS.out.2.2.2.1)
          rw [hone] at HOF
          have HONE := Aside0.mk hone
          have HR1 := Aside0.mk hr
          have H01 := Aside0.mk h1
          clear h0 hout hr h1 b d k hone
          go_wp2_with (fail)
          refine (bits_Reader_Get.calls g s 64 x e1 s' w _ HI.out HB.out (congrArg some HR1.out)).mono ?_
          rintro q w5 ⟨rfl, hi5, hb5, hk5⟩
          have HG5 := Aside0.mk (show w5.heap[gw]? = some (.cells #[.int .i64 p'.1, .int .i64 p'.2] 42 (0, 0)) from by rw [hp']; exact (hk5.2 gw (blk_lt HG.out) (HI.out.ne HG.out (by decide)) (by simp)).trans HG.out)
          have HO5 := Aside0.mk (R_kept2 HI.out HG.out HO.out (by decide) (by decide) (.of_but hk5))
          have HI5 := Aside0.mk hi5
          have HB5 := Aside0.mk hb5
          clear hi5 hb5 hk5 hp' HI HB HG HO
          by_cases he : e1 = 0
          · subst he
            have HF := Aside0.mk (HOF.out.2 rfl)
            have HL := Aside0.mk (show gLoop n [] (-1, 0) (unpack l0) = gLoop (n - (i + 1)) (out ++ [x]) p' s' from by
              rw [HS.out.2.2.2.2, show n - i = (n - (i + 1)) + 1 by omega, gLoop, HONE.out]
              exact if_neg (fun h => h rfl))
            have HLN := Aside0.mk HS.out.1
            clear HOF
            go_wp2_with (first
              | ((with_reducible refine gate_builtin (b := .append) (xs := #[.tmp 49, .tmp 51]) rfl ?_); at_builtin; refine Kd.R_append (Kd.int .u64) (w0 := w) w.heap.size rfl (.tmp 49) (.tmp 51) 22 35 (.int .u64 0) 8 rfl Tryd.underlying22 infoU rfl (by decide) (by omega) u8 out x [.int .u64 x] (fun _ => True) (fun _ => False) rfl rfl rfl (fun _ hk => hk.elim) (fun _ _ => trivial) HO5.out HB5.out HB5.out.size (by have := HN.out; have := HLN.out; omega) ?_; intro v1 w9 ho hb hg hat; have HI9 := Aside0.mk (IsS70.grown HI5.out hg (IsS70.own_ne HI5.out HO5.out (by decide))); have HG9 := Aside0.mk (blk_grown HG5.out hg (Kd.R_ne HO5.out HG5.out (by decide))); have HB9 := Aside0.mk hb; have HO9 := Aside0.mk ho; clear ho hb hg hat))
            go_roundg (n - (i + 1))
            case measure => exact (by have := HN.out; omega)
            case rel =>
              rw [HW.out]
              exact ⟨i + 1, out ++ [x], s', p'.1, p'.2, rfl, rfl, hlt, ⟨by rw [List.length_append, HLN.out]; rfl, fun y hy => by
                rcases List.mem_append.1 hy with hy | hy
                · exact HS.out.2.1 y hy
                · rw [List.mem_singleton.1 hy]; exact HF.out.1, HF.out.2, H01.out, HL.out⟩, HI9, HB9, HG9, HO9⟩
          · have ce : (e1 == 0) = false := by rw [beq_eq_false_iff_ne]; exact he
            have HE := Aside0.mk (show r1 = [] ∧ r2 = e1 from by
              have hL : gLoop n [] (-1, 0) (unpack l0) = ([], e1) := by
                rw [HS.out.2.2.2.2, show n - i = (n - (i + 1)) + 1 by omega, gLoop, HONE.out]
                exact if_pos he
              have hH := H.out
              rw [hL, gEnd, if_pos he] at hH
              injection hH with q1 q2
              exact ⟨q1.symm, q2.symm⟩)
            clear he HOF
            go_wp2
            go_ret2
            rw [HE.out.1, HE.out.2]
            exact ⟨_, rfl, Kd.R_nil _ _ _ _ _, HB5.out⟩
        · obtain ⟨j, hj⟩ : ∃ j, i = j + 1 := ⟨i - 1, by omega⟩
          have c5 : ((i : Int) == 0) = false := by rw [beq_eq_false_iff_ne]; omega
          have hlen := HS.out.1
          have hout : out ≠ [] := fun e => by rw [e] at hlen; simp at hlen; omega
          obtain ⟨x0, e1, s', p', hnx⟩ : ∃ x0 e1 s' p', gNx (a, z) s = (x0, e1, s', p') := ⟨_, _, _, _, rfl⟩
          obtain ⟨x, hx⟩ : ∃ x, xw x0 (rd out (j : Int)) = x := ⟨_, rfl⟩
          have hone : gOne out (a, z) s = (x, e1, s', p') := by
            unfold gOne
            rw [if_neg hout, hnx, show (out.length : Int) - 1 = (j : Int) by omega, hx]
          have HOF := Aside0.mk (gOne_facts HS.out.2.1 HS.out.2.2.1 HS.out.2.2.2.1)
          rw [hone] at HOF
          have H01 := Aside0.mk HOF.out.1
          have HONE := Aside0.mk hone
          have HNX := Aside0.mk hnx
          have hdx : Go.bits .xor .u64 x0 (rd out (j : Int)) = x := hx
          have hw1 : wrap64 ((i : Int) - 1) = (j : Int) := by have := HN.out; rw [wrap64_id (by omega) (by omega)]; omega
          have HJ := Aside0.mk (show j < out.length from by omega)
          clear h0 hj hout hnx hx hone hlen
          go_wp2_with (fail)
          refine (gorilla_next.calls g gw s a z x0 e1 s' p' w _ HI.out HB.out HG.out GE.out HS.out.2.2.1 HS.out.2.2.2.1 HNX.out).mono ?_
          rintro q w5 ⟨rfl, hi5, hb5, hg5, hk5⟩
          have HO5 := Aside0.mk (R_kept2 HI.out HG.out HO.out (by decide) (by decide) hk5)
          have HI5 := Aside0.mk hi5
          have HB5 := Aside0.mk hb5
          have HG5 := Aside0.mk hg5
          clear hi5 hb5 hg5 hk5 HI HB HG HO
          obtain ⟨A5, q5, e5⟩ := Kd.R_slice HO5.out
          subst e5
          obtain ⟨ad5, e6, hx5⟩ := Kd.at_int (Kd.R_reads' HO5.out).2.2 (j : Int) (by omega) (by have := HJ.out; omega)
          subst e6
          rw [Int.toNat_natCast] at hx5
          have c7 : decide ((j : Int) < (out.length : Int)) = true := decide_eq_true (by have := HJ.out; omega)
          have c9 : j < out.length := HJ.out
          by_cases he : e1 = 0
          · subst he
            have HF := Aside0.mk (HOF.out.2 rfl)
            have HL := Aside0.mk (show gLoop n [] (-1, 0) (unpack l0) = gLoop (n - (i + 1)) (out ++ [x]) p' s' from by
              rw [HS.out.2.2.2.2, show n - i = (n - (i + 1)) + 1 by omega, gLoop, HONE.out]
              exact if_neg (fun h => h rfl))
            have HLN := Aside0.mk HS.out.1
            clear HOF
            go_wp2_with (first
              | ((with_reducible refine gate_builtin (b := .append) (xs := #[.tmp 49, .tmp 51]) rfl ?_); at_builtin; refine Kd.R_append (Kd.int .u64) (w0 := w) w.heap.size rfl (.tmp 49) (.tmp 51) 22 35 (.int .u64 0) 8 rfl Tryd.underlying22 infoU rfl (by decide) (by omega) (.slice (some ad5) out.length q5) out x [.int .u64 x] (fun _ => True) (fun _ => False) rfl rfl rfl (fun _ hk => hk.elim) (fun _ _ => trivial) HO5.out HB5.out HB5.out.size (by have := HN.out; have := HLN.out; omega) ?_; intro v1 w9 ho hb hg hat; have HI9 := Aside0.mk (IsS70.grown HI5.out hg (IsS70.own_ne HI5.out HO5.out (by decide))); have HG9 := Aside0.mk (blk_grown HG5.out hg (Kd.R_ne HO5.out HG5.out (by decide))); have HB9 := Aside0.mk hb; have HO9 := Aside0.mk ho; clear ho hb hg hat))
            go_roundg (n - (i + 1))
            case measure => exact (by have := HN.out; omega)
            case rel =>
              rw [HW.out]
              exact ⟨i + 1, out ++ [x], s', p'.1, p'.2, rfl, rfl, hlt, ⟨by rw [List.length_append, HLN.out]; rfl, fun y hy => by
                rcases List.mem_append.1 hy with hy | hy
                · exact HS.out.2.1 y hy
                · rw [List.mem_singleton.1 hy]; exact HF.out.1, HF.out.2, H01.out, HL.out⟩, HI9, HB9, HG9, HO9⟩
          · have ce : (e1 == 0) = false := by rw [beq_eq_false_iff_ne]; exact he
            have HE := Aside0.mk (show r1 = [] ∧ r2 = e1 from by
              have hL : gLoop n [] (-1, 0) (unpack l0) = ([], e1) := by
                rw [HS.out.2.2.2.2, show n - i = (n - (i + 1)) + 1 by omega, gLoop, HONE.out]
                exact if_pos he
              have hH := H.out
              rw [hL, gEnd, if_pos he] at hH
              injection hH with q1 q2
              exact ⟨q1.symm, q2.symm⟩)
            clear he HOF
            go_wp2
            go_ret2
            rw [HE.out.1, HE.out.2]
            exact ⟨_, rfl, Kd.R_nil _ _ _ _ _, HB5.out⟩
      · have c3 : decide ((i : Int) < (n : Int)) = false := decide_eq_false (by omega)
        have c4 : decide (i < n) = false := decide_eq_false hlt
        obtain rfl : i = n := by omega
        have hL := HS.out.2.2.2.2
        rw [Nat.sub_self, gLoop] at hL
        have HL := Aside0.mk hL
        have hH := H.out
        rw [hL, gEnd, if_neg (fun h => h rfl)] at hH
        have HH := Aside0.mk (show (if pack (gB out out.length) = l0 then (out, 0) else ([], 3)) = (r1, r2) from hH)
        have HEN := Aside0.mk (show gorilla_Encode.f out = some (pack (gB out out.length), 0) from by
          unfold gorilla_Encode.f
          rw [if_pos ⟨HS.out.2.1, by have := HS.out.1; have := HN.out; omega⟩, gEnc, if_neg (by have := HS.out.1; have := HN.out; omega)])
        clear hL hH
        obtain ⟨A5, q5, e5⟩ := Kd.R_slice HO.out
        subst e5
        have HRO := Aside0.mk (Kd.R_reads' HO.out)
        have HU := Aside0.mk HS.out.2.1
        clear HS
        go_wp2_with (fail)
        refine (gorilla_Encode.calls A5 q5 out _ 0 _ HRO.out.2.2 HRO.out.2.1 HEN.out (Tab.below HT.out HB.out)).mono ?_
        rintro q w5 ⟨vE, rfl, hrE, hbE⟩
        obtain ⟨AE, cE, eE⟩ := Kd.R_slice hrE
        subst eE
        have HE5 := Aside0.mk (Kd.R_reads' hrE)
        have HB5 := Aside0.mk (below_step HB.out hbE)
        have HO5 := Aside0.mk (Kd.R_below HO.out hbE)
        have HL5 := Aside0.mk (Kd.C_below HR.out HB5.out)
        clear hbE hrE HB HO HRO HEN
        go_wp2_with (fail)
        refine (bytes_Equal.calls AE cE (pack (gB out out.length)) A0 c0 l0 (decide (pack (gB out out.length) = l0)) _ HE5.out.2.2 HE5.out.2.1 HL5.out HN.out.2.1 (by unfold bytes_Equal.f; rw [str_eq _ _ (pack_by (gB_01 _ _)) HBY.out])).mono ?_
        rintro q w6 ⟨rfl, hb6⟩
        have HB6 := Aside0.mk (below_step HB5.out hb6.below)
        have HO6 := Aside0.mk (Kd.R_below HO5.out hb6.below)
        clear hb6 HB5 HO5 HL5 HE5
        by_cases hp : pack (gB out out.length) = l0
        · have hd : decide (pack (gB out out.length) = l0) = true := decide_eq_true hp
          have HE := Aside0.mk (show r1 = out ∧ r2 = 0 from by
            have hH := HH.out
            rw [if_pos hp] at hH
            injection hH with q1 q2
            exact ⟨q1.symm, q2.symm⟩)
          rw [hd]
          clear hp hd
          go_wp2
          go_ret2
          rw [HE.out.1, HE.out.2]
          exact ⟨_, rfl, HO6.out, HB6.out⟩
        · have hd : decide (pack (gB out out.length) = l0) = false := decide_eq_false hp
          have HE := Aside0.mk (show r1 = [] ∧ r2 = 3 from by
            have hH := HH.out
            rw [if_neg hp] at hH
            injection hH with q1 q2
            exact ⟨q1.symm, q2.symm⟩)
          rw [hd]
          clear hp hd
          go_wp2
          go_ret2
          rw [HE.out.1, HE.out.2]
          exact ⟨_, rfl, Kd.R_nil _ _ _ _ _, HB6.out⟩
end Go.Proofs.YtfpnoceppjjafaaDoor.P
