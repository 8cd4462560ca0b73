/- gorilla.next: its contract (printed by s09/gen_next.py). -/
import Derived.Test.YtfpnoceppjjafaaDoorGbit
import Derived.Test.YtfpnoceppjjafaaDoorBitS
import Derived.WalkMore
namespace Go.Proofs.YtfpnoceppjjafaaDoor.P
open Go.RowKit Go.Proofs.YtfpnoceppjjafaaDoor.Kit Go.Proofs.YtfpnoceppjjafaaDoorW.PrintWords Go.Proofs.YtfpnoceppjjafaaDoorW.PrintLast Go.Proofs.YtfpnoceppjjafaaDoorW.PrintMore
set_option linter.unusedVariables false
set_option linter.unusedSimpArgs false

/-- The rest of an item, in a window: the number, why not, what is left, the window. -/
def gNr (p : Int × Int) (s : List Int) : Int × Int × List Int × Int × Int :=
  if p = (-1, 0) ∨ p.2 < 0 then (0, 3, s, p) else ((rGet s (64 - p.1 - p.2)).1 * 2 ^ p.2.toNat, (rGet s (64 - p.1 - p.2)).2.1, (rGet s (64 - p.1 - p.2)).2.2, p)
def gNw (p : Int × Int) (s : List Int) : Int × Int × List Int × Int × Int :=
  if (rGet s 5).2.1 ≠ 0 then (0, (rGet s 5).2.1, (rGet s 5).2.2, p) else
  if (rGet (rGet s 5).2.2 6).2.1 ≠ 0 then (0, (rGet (rGet s 5).2.2 6).2.1, (rGet (rGet s 5).2.2 6).2.2, p) else
  gNr ((rGet s 5).1, 63 - (rGet s 5).1 - (rGet (rGet s 5).2.2 6).1) (rGet (rGet s 5).2.2 6).2.2
def gNo (p : Int × Int) (s : List Int) : Int × Int × List Int × Int × Int :=
  if (rGet s 1).2.1 ≠ 0 then (0, (rGet s 1).2.1, (rGet s 1).2.2, p) else
  if (rGet s 1).1 = 1 then gNw p (rGet s 1).2.2 else gNr p (rGet s 1).2.2
/-- What differs in the next pattern. -/
def gNx (p : Int × Int) (s : List Int) : Int × Int × List Int × Int × Int :=
  if (rGet s 1).2.1 ≠ 0 ∨ (rGet s 1).1 = 0 then (0, (rGet s 1).2.1, (rGet s 1).2.2, p) else gNo p (rGet s 1).2.2
theorem rGet_facts {s : List Int} (h : is01 s) (w : Nat) (hw : w ≤ 64) : ∃ v e s', rGet s (w : Int) = (v, e, s') ∧ is01 s' ∧ 0 ≤ v ∧ v < 2 ^ w ∧ (e = 0 ∨ e = 2 ∧ v = 0) := by
  unfold rGet
  rw [if_neg (by omega), Int.toNat_natCast]
  split
  · exact ⟨_, _, _, rfl, h, by omega, by have := Nat.two_pow_pos w; exact_mod_cast this, .inr ⟨rfl, rfl⟩⟩
  · next hl =>
    have hb := valL_bd (is01_take h w)
    rw [List.length_take, Nat.min_eq_left (by omega)] at hb
    exact ⟨_, _, _, rfl, is01_drop h w, hb.1, hb.2, .inl rfl⟩
def Kept2 (w w' : World) (g h : Nat) : Prop := w.heap.size ≤ w'.heap.size ∧ ∀ i, i < w.heap.size → i ≠ g → i ≠ h → w'.heap[i]? = w.heap[i]?
theorem Kept2.refl (w : World) (g h : Nat) : Kept2 w w g h := ⟨Nat.le_refl _, fun _ _ _ _ => rfl⟩
theorem Kept2.trans {a b c : World} {g h : Nat} (h1 : Kept2 a b g h) (h2 : Kept2 b c g h) : Kept2 a c g h := ⟨Nat.le_trans h1.1 h2.1, fun i hi h3 h4 => (h2.2 i (Nat.lt_of_lt_of_le hi h1.1) h3 h4).trans (h1.2 i hi h3 h4)⟩
theorem Kept2.of_below {w w' : World} {g h : Nat} (hb : Below w.heap.size w w') : Kept2 w w' g h := ⟨hb.size, fun i hi _ _ => hb.block i hi⟩
theorem Kept2.of_but {w w' : World} {g h : Nat} (hb : KeepBut w w' g none) : Kept2 w w' g h := ⟨hb.1, fun i hi h3 _ => hb.2 i hi h3 (by simp)⟩
theorem Kept2.set {w : World} {g h : Nat} (i : Nat) (v : Value) : Kept2 w (w.setCell ⟨h, i, none⟩ v) g h := ⟨by simp [World.setCell], fun j _ _ h4 => Below.heap_setCell w ⟨h, i, none⟩ v j h4⟩
theorem Kept2.drawn {w w' : World} {g h : Nat} (hd : Drawn0 w w') : Kept2 w w' g h := by
  obtain ⟨n, rfl⟩ := hd.out
  exact .of_below (pw_below_drewN (Below.refl _ _) n)
/-- Another block of another type is none of the reader's. -/
theorem IsS70.set {w0 W : World} {g gw t : Nat} {f0 : List Int} {cs : Array Value} (h : IsS70 w0 W g f0) (hw : W.heap[gw]? = some (.cells cs t (0, 0))) (ht : t ≠ 70 ∧ t ≠ 5) (i : Nat) (u : Value) : IsS70 w0 (W.setCell ⟨gw, i, none⟩ u) g f0 := by
  obtain ⟨b, n, ⟨v, hg, hb, hr⟩, hx⟩ := h
  have hne : g ≠ gw := by
    rintro rfl
    rw [hg] at hw
    injection hw with hw
    injection hw with _ h5
    exact ht.1 h5.symm
  have hr' := Kd.R_types hr hw (fun q hq => by
    rcases List.mem_cons.1 hq with rfl | hq
    · exact ht.2.symm
    · exact absurd hq (by rw [show (Kd.int .u8).E = [] from rfl]; exact List.not_mem_nil))
  exact ⟨b, n, ⟨v, (Below.heap_setCell W ⟨gw, i, none⟩ u g hne).trans hg, hb, Kd.R_mono (Kd.R_far hr' (fun k hk => hk.2) u) (fun _ hk => ⟨hk.1.1, trivial⟩)⟩, hx⟩
theorem IsS70.ne {w0 W : World} {g gw t : Nat} {f0 : List Int} {cs : Array Value} (h : IsS70 w0 W g f0) (hw : W.heap[gw]? = some (.cells cs t (0, 0))) (ht : t ≠ 70) : gw ≠ g := by
  obtain ⟨b, n, ⟨v, hg, hb, hr⟩, hx⟩ := h
  rintro rfl
  rw [hg] at hw
  injection hw with hw
  injection hw with _ h5
  exact ht h5.symm
/-- Get of a reader beside which a window lies. -/
theorem Get_beside (g gw : Nat) (s : List Int) (wd : Int) (v e : Int) (s' : List Int) (cs : Array Value) (w0 w wb : World) (hI : IsS70 w0 w g s) (hB : Below w0.heap.size w0 w) (hG : w.heap[gw]? = some (.cells cs 42 (0, 0))) (hK : Kept2 wb w g gw) (h : rGet s wd = (v, e, s')) :
    Calls Tryd.prog 28 #[.pointer (some ⟨g, 0, none⟩), .int .i64 wd] w fun x w' => x = .returned (.tuple #[.int .u64 v, .int .i64 e]) ∧ IsS70 w0 w' g s' ∧ Below w0.heap.size w0 w' ∧ w'.heap[gw]? = some (.cells cs 42 (0, 0)) ∧ Kept2 wb w' g gw := by
  refine (bits_Reader_Get.calls g s wd v e s' w0 w hI hB (congrArg some h)).mono ?_
  rintro x w' ⟨rfl, hi, hb, hk⟩
  exact ⟨rfl, hi, hb, (hk.2 gw (blk_lt hG) (hI.ne hG (by decide)) (by simp)).trans hG, hK.trans (.of_but hk)⟩
theorem wnone {a z : Int} (h : ¬ (a = -1 ∧ z = 0)) : ((a == -1) && (z == 0)) = false := by
  by_cases h1 : a = -1
  · by_cases h2 : z = 0
    · exact absurd ⟨h1, h2⟩ h
    · simp [h2]
  · simp [h1]
theorem shl_fit {v : Int} {m z : Nat} (h0 : 0 ≤ v) (h1 : v < 2 ^ m) (h2 : m + z ≤ 64) : IntKind.u64.wrap (v * 2 ^ z) = v * 2 ^ z := by
  obtain ⟨n, rfl⟩ := Int.eq_ofNat_of_zero_le h0
  have hn : n < 2 ^ m := by exact_mod_cast h1
  have h3 : n * 2 ^ z < 2 ^ (m + z) := by rw [Nat.pow_add]; exact Nat.mul_lt_mul_of_pos_right hn (Nat.two_pow_pos z)
  have h4 : 2 ^ (m + z) ≤ 2 ^ 64 := Nat.pow_le_pow_right (by decide) h2
  have e : (n : Int) * 2 ^ z = ((n * 2 ^ z : Nat) : Int) := by norm_cast
  rw [e]
  exact k64_id _ (by omega) (by omega)
set_option maxHeartbeats 4000000 in
set_option maxRecDepth 100000 in
theorem gorilla_next.calls (g gw : Nat) (s : List Int) (a z : Int) (x e : Int) (s' : List Int) (p' : Int × Int) (w0 w : World) (hI : IsS70 w0 w g s) (hB : Below w0.heap.size w0 w) (hG : w.heap[gw]? = some (.cells #[.int .i64 a, .int .i64 z] 42 (0, 0))) (hge : w0.heap.size ≤ gw) (hok : okW (a, z)) (h01 : is01 s) (h : gNx (a, z) s = (x, e, s', p')) :
    Calls Tryd.prog 29 #[.pointer (some ⟨g, 0, none⟩), .pointer (some ⟨gw, 0, none⟩)] w fun q w' => q = .returned (.tuple #[.int .u64 x, .int .i64 e]) ∧ IsS70 w0 w' g s' ∧ Below w0.heap.size w0 w' ∧ w'.heap[gw]? = some (.cells #[.int .i64 p'.1, .int .i64 p'.2] 42 (0, 0)) ∧ Kept2 w w' g gw := by
  have HI0 := Aside0.mk hI
  have HB0 := Aside0.mk hB
  have HG0 := Aside0.mk hG
  have HK0 := Aside0.mk (Kept2.refl w g gw)
  have HX := Aside0.mk h
  have GE := Aside0.mk hge
  have hu42 := Tryd.underlying42
  obtain ⟨v1, e1, s1, hr1, h1, b1, d1, k1⟩ := rGet_facts h01 1 (by decide)
  have HR1 := Aside0.mk hr1
  have H011 := Aside0.mk h1
  have HOK := Aside0.mk (show ¬ (a = -1 ∧ z = 0) → ¬ z < 0 → 0 ≤ a ∧ a ≤ 31 ∧ 0 ≤ z ∧ a + z ≤ 63 from fun h1 h2 => by
    rcases hok with e | e
    · injection e with e1 e2
      exact absurd ⟨e1, e2⟩ h1
    · exact e)
  have hx1 : gNx (a, z) s = if e1 ≠ 0 ∨ v1 = 0 then (0, e1, s1, (a, z)) else gNo (a, z) s1 := by
    unfold gNx
    rw [show rGet s 1 = (v1, e1, s1) from hr1]
  have HX1 := Aside0.mk hx1
  clear hI hB hG h hge hr1 h1 hok h01 hx1 b1 d1 k1
  go_enter Tryd.func29, Tryd.ntmps29
  go_wp2_with (fail)
  refine (Get_beside g gw s 1 v1 e1 s1 _ w0 _ w HI0.out HB0.out HG0.out HK0.out HR1.out).mono ?_
  rintro q w1 ⟨rfl, hi, hb, hg, hk⟩
  have HI1 := Aside0.mk hi
  have HB1 := Aside0.mk hb
  have HG1 := Aside0.mk hg
  have HK1 := Aside0.mk hk
  clear hi hb hg hk
  by_cases he1 : e1 = 0
  · subst he1
    by_cases hv1 : v1 = 0
    · have cv1 : (v1 == 0) = true := by rw [hv1]; rfl
      have HE := Aside0.mk (HX1.out.trans (if_pos (.inr hv1)))
      clear hv1
      go_wp2
      go_ret2
      have hx := HX.out
      rw [HE.out] at hx
      injection hx with x1 x2
      injection x2 with x2 x3
      injection x3 with x3 x4
      subst x1 x2 x3
      rw [← x4]
      exact ⟨rfl, HI1.out, HB1.out, HG1.out, HK1.out⟩
    · have cv1 : (v1 == 0) = false := by rw [beq_eq_false_iff_ne]; exact hv1
      have HE := Aside0.mk (HX1.out.trans (if_neg (fun h => h.elim (fun h => h rfl) hv1)))
      obtain ⟨v2, e2, s2, hr2, h2, b2, d2, k2⟩ := rGet_facts H011.out 1 (by decide)
      have HR2 := Aside0.mk hr2
      have H012 := Aside0.mk h2
      have HX2 := Aside0.mk (show gNo (a, z) s1 = if e2 ≠ 0 then (0, e2, s2, (a, z)) else if v2 = 1 then gNw (a, z) s2 else gNr (a, z) s2 from by
        unfold gNo
        rw [show rGet s1 1 = (v2, e2, s2) from hr2])
      clear hv1 hr2 h2 b2 d2 k2
      go_wp2_with (fail)
      refine (Get_beside g gw s1 1 v2 e2 s2 _ w0 _ w HI1.out HB1.out HG1.out HK1.out HR2.out).mono ?_
      rintro q w2 ⟨rfl, hi, hb, hg, hk⟩
      have HI2 := Aside0.mk hi
      have HB2 := Aside0.mk hb
      have HG2 := Aside0.mk hg
      have HK2 := Aside0.mk hk
      clear hi hb hg hk
      by_cases he2 : e2 = 0
      · subst he2
        by_cases hv2 : v2 = 1
        · have cv2 : (v2 == 1) = true := by rw [hv2]; rfl
          have HE2 := Aside0.mk ((HX2.out.trans (if_neg (fun h => h rfl))).trans (if_pos hv2))
          obtain ⟨v3, e3, s3, hr3, h3, b3, d3, k3⟩ := rGet_facts H012.out 5 (by decide)
          obtain ⟨v4, e4, s4, hr4, h4, b4, d4, k4⟩ := rGet_facts h3 6 (by decide)
          have HR3 := Aside0.mk hr3
          have HR4 := Aside0.mk hr4
          have H014 := Aside0.mk h4
          have HX3 := Aside0.mk (show gNw (a, z) s2 = if e3 ≠ 0 then (0, e3, s3, (a, z)) else if e4 ≠ 0 then (0, e4, s4, (a, z)) else gNr (v3, 63 - v3 - v4) s4 from by
            unfold gNw
            rw [show rGet s2 5 = (v3, e3, s3) from hr3, show rGet s3 6 = (v4, e4, s4) from hr4])
          clear hv2 hr3 hr4 h3 h4 HOK
          go_wp2_with (fail)
          refine (Get_beside g gw s2 5 v3 e3 s3 _ w0 _ w HI2.out HB2.out HG2.out HK2.out HR3.out).mono ?_
          rintro q w3 ⟨rfl, hi, hb, hg, hk⟩
          have HI3 := Aside0.mk hi
          have HB3 := Aside0.mk hb
          have HG3 := Aside0.mk hg
          have HK3 := Aside0.mk hk
          clear hi hb hg hk
          by_cases he3 : e3 = 0
          · subst he3
            have HBD := Aside0.mk (show 0 ≤ v3 ∧ v3 < 32 ∧ 0 ≤ v4 ∧ v4 < 64 from ⟨b3, d3, b4, d4⟩)
            clear b3 d3 k3 b4 d4 k4
            go_wp2_with (fail)
            refine (Get_beside g gw s3 6 v4 e4 s4 _ w0 _ w HI3.out HB3.out HG3.out HK3.out HR4.out).mono ?_
            rintro q w4 ⟨rfl, hi, hb, hg, hk⟩
            have HI4 := Aside0.mk hi
            have HB4 := Aside0.mk hb
            have HG4 := Aside0.mk hg
            have HK4 := Aside0.mk hk
            clear hi hb hg hk
            by_cases he4 : e4 = 0
            · subst he4
              have HE3 := Aside0.mk ((HX3.out.trans (if_neg (fun h => h rfl))).trans (if_neg (fun h => h rfl)))
              have hw1 : wrap64 v3 = v3 := wrap64_id (by have := HBD.out; omega) (by have := HBD.out; omega)
              have hw2 : wrap64 v4 = v4 := wrap64_id (by have := HBD.out; omega) (by have := HBD.out; omega)
              have hw3 : wrap64 (63 - v3) = 63 - v3 := wrap64_id (by have := HBD.out; omega) (by have := HBD.out; omega)
              have hw4 : wrap64 (63 - v3 - v4) = 63 - v3 - v4 := wrap64_id (by have := HBD.out; omega) (by have := HBD.out; omega)
              have hcz0 : w4.cell? ⟨gw, 0, none⟩ = some (.int .i64 a) := (blk_cell HG4.out 0).trans rfl
              have hcz1 : w4.cell? ⟨gw, 1, none⟩ = some (.int .i64 z) := (blk_cell HG4.out 1).trans rfl
              have hfz0 := blk_frozen HG4.out 0
              have hfz1 := blk_frozen HG4.out 1
              have HOK := Aside0.mk (show ¬ (v3 = -1 ∧ 63 - v3 - v4 = 0) → ¬ 63 - v3 - v4 < 0 → 0 ≤ v3 ∧ v3 ≤ 31 ∧ 0 ≤ 63 - v3 - v4 ∧ v3 + (63 - v3 - v4) ≤ 63 from fun _ h => by have := HBD.out; omega)
              obtain ⟨Z, hZ⟩ : ∃ Z, 63 - v3 - v4 = Z := ⟨_, rfl⟩
              rw [hZ] at HOK HE3
              replace hw4 : wrap64 (63 - v3 - v4) = Z := hw4.trans hZ
              clear hZ
              go_upto_region 15 with (fail)
              have HG5 := Aside0.mk (show ((w4.setCell ⟨gw, 0, none⟩ (.int .i64 v3)).setCell ⟨gw, 1, none⟩ (.int .i64 Z)).heap[gw]? = some (.cells #[.int .i64 v3, .int .i64 Z] 42 (0, 0)) from by
                refine blk_put (cs := #[.int .i64 v3, .int .i64 z]) ?_ 1 _ rfl
                refine blk_put (cs := #[.int .i64 a, .int .i64 z]) ?_ 0 _ rfl
                exact HG4.out)
              have HI5 := Aside0.mk (IsS70.set (IsS70.set HI4.out HG4.out (by decide) 0 (.int .i64 v3)) (blk_put (cs' := #[.int .i64 v3, .int .i64 z]) HG4.out 0 _ rfl) (by decide) 1 (.int .i64 Z))
              have HB5 := Aside0.mk (show Below w0.heap.size w0 ((w4.setCell ⟨gw, 0, none⟩ (.int .i64 v3)).setCell ⟨gw, 1, none⟩ (.int .i64 Z)) from below_set (below_set HB4.out GE.out) GE.out)
              have HK5 := Aside0.mk ((HK4.out.trans (Kept2.set 0 (.int .i64 v3))).trans (Kept2.set (g := g) (h := gw) 1 (.int .i64 Z)))
              have H015 := H014
              clear hcz0 hcz1 hfz0 hfz1 hw1 hw2 hw3 hw4
              generalize ((w4.setCell ⟨gw, 0, none⟩ (.int .i64 v3)).setCell ⟨gw, 1, none⟩ (.int .i64 Z)) = w5 at *
              have hcz0 : w5.cell? ⟨gw, 0, none⟩ = some (.int .i64 v3) := (blk_cell HG5.out 0).trans rfl
              have hcz1 : w5.cell? ⟨gw, 1, none⟩ = some (.int .i64 Z) := (blk_cell HG5.out 1).trans rfl
              by_cases hn : v3 = -1 ∧ Z = 0
              · have hq : ∀ w, (binOp .eql 42 (.agg #[.int .i64 v3, .int .i64 Z]) (.agg #[.int .i64 (-1), .int .i64 0])).run Tryd.prog w = .ok (.bool true) w := fun w => by rw [weq, hn.1, hn.2]; rfl
                have HT1 := Aside0.mk (show gNr (v3, Z) s4 = (0, 3, s4, (v3, Z)) from if_pos (.inl (by rw [hn.1, hn.2])))
                clear hn HOK
                go_upto_region 15 with (fail)
                refine start_ (n := 12) (S := fun w' => w'.cell? ⟨gw, 0, none⟩ = some (.int .i64 v3) ∧ w'.cell? ⟨gw, 1, none⟩ = some (.int .i64 Z)) (ds := []) #[false, false, false, false, false, false, false, false, false, false, false, false] (by kernel_rfl) rfl rfl ⟨hcz0, hcz1⟩ (fun hHeld => ?_)
                refine pure_ (i := 0) (N := some 62) (v := ?_) (a' := ?_) #[true, false, false, false, false, false, false, false, false, false, false, false] rfl rfl (by kernel_rfl) (fun _ _ _ h => h) (Or.inl ⟨by rfl, ?_⟩) ?_ ?_
                rotate_left
                · intro w'
                  go_simp
                  with_reducible rfl
                rotate_left
                · simp only [Act.put, List.setIfInBounds_toArray, List.set_cons_zero, List.set_cons_succ, i64_w, i32_w]
                  rfl
                refine pure_ (i := 1) (N := some 63) (v := ?_) (a' := ?_) #[true, true, false, false, false, false, false, false, false, false, false, false] rfl rfl (by kernel_rfl) (fun _ _ _ h => h) (Or.inl ⟨by rfl, ?_⟩) ?_ ?_
                rotate_left
                · intro w'
                  go_simp
                  with_reducible rfl
                rotate_left
                · simp only [Act.put, List.setIfInBounds_toArray, List.set_cons_zero, List.set_cons_succ, i64_w, i32_w]
                  rfl
                refine take_ (i := 2) (N := some 64) (v := ?_) (a' := ?_) #[true, true, true, false, false, false, false, false, false, false, false, false] rfl rfl (by kernel_rfl) (fun _ _ _ h => h) (Or.inl ⟨by rfl, ?_⟩) hHeld ?_ ?_
                rotate_left
                · rintro w' ⟨s0, s1⟩
                  go_simp
                  with_reducible rfl
                rotate_left
                · simp only [Act.put, List.setIfInBounds_toArray, List.set_cons_zero, List.set_cons_succ, i64_w, i32_w]
                  rfl
                refine one_ (i := 3) (N := some 65) #[true, true, true, true, false, false, false, false, false, false, false, false] rfl rfl (by kernel_rfl) (by decide) (fun K hK => ?_)
                refine goes_ Tryd.func16 (by kernel_rfl) rfl #[] (by rfl) rfl rfl (by simp only [List.map_toArray, List.map_cons, List.map_nil]; first | done | rfl) ?_
                with_reducible refine (gorilla_none.calls (-1) 0 _ rfl).mono ?_
                rintro e w9 ⟨rfl, hb⟩
                refine ⟨_, rfl, ?_⟩
                have HI9 := Aside0.mk (IsS70.below HI5.out.drew hb)
                have HB9 := Aside0.mk (below_step (below_drew1 HB5.out) hb)
                have HG9 := Aside0.mk (blk_below (blk_drew HG5.out) hb)
                have HK9 := Aside0.mk ((HK5.out.trans (Kept2.of_below (below_drew1 (Below.refl _ _)))).trans (Kept2.of_below hb))
                clear hb
                refine hK.out _ _ ⟨(blk_cell HG9.out 0).trans rfl, (blk_cell HG9.out 1).trans rfl⟩ (fun hHeld => ?_)
                clear hK K
                refine norm_ (a' := ?_) ?_ ?_
                rotate_left
                · show Act.put _ (some 65) _ = _
                  simp only [Act.put, List.setIfInBounds_toArray, List.set_cons_zero, List.set_cons_succ, i64_w, i32_w]
                  rfl
                refine pure_ (i := 4) (N := some 66) (v := ?_) (a' := ?_) #[true, true, true, true, true, false, false, false, false, false, false, false] rfl rfl (by kernel_rfl) (fun _ _ _ h => h) (Or.inl ⟨by rfl, ?_⟩) ?_ ?_
                rotate_left
                · intro w'
                  go_simp
                  with_reducible rfl
                rotate_left
                · simp only [Act.put, List.setIfInBounds_toArray, List.set_cons_zero, List.set_cons_succ, i64_w, i32_w]
                  rfl
                refine pure_ (i := 5) (N := some 67) (v := ?_) (a' := ?_) #[true, true, true, true, true, true, false, false, false, false, false, false] rfl rfl (by kernel_rfl) (fun _ _ _ h => h) (Or.inl ⟨by rfl, ?_⟩) ?_ ?_
                rotate_left
                · intro w'
                  go_simp
                  with_reducible rfl
                rotate_left
                · simp only [Act.put, List.setIfInBounds_toArray, List.set_cons_zero, List.set_cons_succ, i64_w, i32_w]
                  rfl
                refine pure_ (i := 6) (N := some 68) (v := undef) (a' := ?_) #[true, true, true, true, true, true, true, false, false, false, false, false] rfl rfl (by kernel_rfl) (fun _ _ _ h => h) (Or.inr ⟨by rfl, rfl⟩) ?_ ?_
                rotate_left
                · simp only [Act.put, List.setIfInBounds_toArray, List.set_cons_zero, List.set_cons_succ, i64_w, i32_w]
                  rfl
                refine pure_ (i := 7) (N := some 69) (v := undef) (a' := ?_) #[true, true, true, true, true, true, true, true, false, false, false, false] rfl rfl (by kernel_rfl) (fun _ _ _ h => h) (Or.inr ⟨by rfl, rfl⟩) ?_ ?_
                rotate_left
                · simp only [Act.put, List.setIfInBounds_toArray, List.set_cons_zero, List.set_cons_succ, i64_w, i32_w]
                  rfl
                refine pure_ (i := 8) (N := some 70) (v := undef) (a' := ?_) #[true, true, true, true, true, true, true, true, true, false, false, false] rfl rfl (by kernel_rfl) (fun _ _ _ h => h) (Or.inr ⟨by rfl, rfl⟩) ?_ ?_
                rotate_left
                · simp only [Act.put, List.setIfInBounds_toArray, List.set_cons_zero, List.set_cons_succ, i64_w, i32_w]
                  rfl
                refine pure_ (i := 9) (N := some 71) (v := undef) (a' := ?_) #[true, true, true, true, true, true, true, true, true, true, false, false] rfl rfl (by kernel_rfl) (fun _ _ _ h => h) (Or.inr ⟨by rfl, rfl⟩) ?_ ?_
                rotate_left
                · simp only [Act.put, List.setIfInBounds_toArray, List.set_cons_zero, List.set_cons_succ, i64_w, i32_w]
                  rfl
                refine pure_ (i := 10) (N := some 72) (v := undef) (a' := ?_) #[true, true, true, true, true, true, true, true, true, true, true, false] rfl rfl (by kernel_rfl) (fun _ _ _ h => h) (Or.inr ⟨by rfl, rfl⟩) ?_ ?_
                rotate_left
                · simp only [Act.put, List.setIfInBounds_toArray, List.set_cons_zero, List.set_cons_succ, i64_w, i32_w]
                  rfl
                refine pure_ (i := 11) (N := some 73) (v := ?_) (a' := ?_) #[true, true, true, true, true, true, true, true, true, true, true, true] rfl rfl (by kernel_rfl) (fun _ _ _ h => h) (Or.inl ⟨by rfl, ?_⟩) ?_ ?_
                rotate_left
                · intro w'
                  go_simp
                  with_reducible rfl
                rotate_left
                · simp only [Act.put, List.setIfInBounds_toArray, List.set_cons_zero, List.set_cons_succ, i64_w, i32_w]
                  rfl
                refine done_ (by kernel_rfl) ?_

                go_wp2
                go_ret2
                have hx := HX.out
                rw [HE.out, HE2.out, HE3.out, HT1.out] at hx
                injection hx with x1 x2
                injection x2 with x2 x3
                injection x3 with x3 x4
                subst x1 x2 x3
                rw [← x4]
                exact ⟨rfl, HI9.out, HB9.out, HG9.out, HK9.out⟩
              · have hq : ∀ w, (binOp .eql 42 (.agg #[.int .i64 v3, .int .i64 Z]) (.agg #[.int .i64 (-1), .int .i64 0])).run Tryd.prog w = .ok (.bool false) w := fun w => by rw [weq]; exact congrArg (fun b => Result.ok (Value.bool b) w) (wnone hn)
                by_cases hz : Z < 0
                · have cz : decide (Z < 0) = true := decide_eq_true hz
                  have HT1 := Aside0.mk (show gNr (v3, Z) s4 = (0, 3, s4, (v3, Z)) from if_pos (.inr hz))
                  clear hn hz HOK
                  go_upto_region 15 with (fail)
                  refine start_ (n := 12) (S := fun w' => w'.cell? ⟨gw, 0, none⟩ = some (.int .i64 v3) ∧ w'.cell? ⟨gw, 1, none⟩ = some (.int .i64 Z)) (ds := []) #[false, false, false, false, false, false, false, false, false, false, false, false] (by kernel_rfl) rfl rfl ⟨hcz0, hcz1⟩ (fun hHeld => ?_)
                  refine pure_ (i := 0) (N := some 62) (v := ?_) (a' := ?_) #[true, false, false, false, false, false, false, false, false, false, false, false] rfl rfl (by kernel_rfl) (fun _ _ _ h => h) (Or.inl ⟨by rfl, ?_⟩) ?_ ?_
                  rotate_left
                  · intro w'
                    go_simp
                    with_reducible rfl
                  rotate_left
                  · simp only [Act.put, List.setIfInBounds_toArray, List.set_cons_zero, List.set_cons_succ, i64_w, i32_w]
                    rfl
                  refine pure_ (i := 1) (N := some 63) (v := ?_) (a' := ?_) #[true, true, false, false, false, false, false, false, false, false, false, false] rfl rfl (by kernel_rfl) (fun _ _ _ h => h) (Or.inl ⟨by rfl, ?_⟩) ?_ ?_
                  rotate_left
                  · intro w'
                    go_simp
                    with_reducible rfl
                  rotate_left
                  · simp only [Act.put, List.setIfInBounds_toArray, List.set_cons_zero, List.set_cons_succ, i64_w, i32_w]
                    rfl
                  refine take_ (i := 2) (N := some 64) (v := ?_) (a' := ?_) #[true, true, true, false, false, false, false, false, false, false, false, false] rfl rfl (by kernel_rfl) (fun _ _ _ h => h) (Or.inl ⟨by rfl, ?_⟩) hHeld ?_ ?_
                  rotate_left
                  · rintro w' ⟨s0, s1⟩
                    go_simp
                    with_reducible rfl
                  rotate_left
                  · simp only [Act.put, List.setIfInBounds_toArray, List.set_cons_zero, List.set_cons_succ, i64_w, i32_w]
                    rfl
                  refine one_ (i := 3) (N := some 65) #[true, true, true, true, false, false, false, false, false, false, false, false] rfl rfl (by kernel_rfl) (by decide) (fun K hK => ?_)
                  refine goes_ Tryd.func16 (by kernel_rfl) rfl #[] (by rfl) rfl rfl (by simp only [List.map_toArray, List.map_cons, List.map_nil]; first | done | rfl) ?_
                  with_reducible refine (gorilla_none.calls (-1) 0 _ rfl).mono ?_
                  rintro e w9 ⟨rfl, hb⟩
                  refine ⟨_, rfl, ?_⟩
                  have HI9 := Aside0.mk (IsS70.below HI5.out.drew hb)
                  have HB9 := Aside0.mk (below_step (below_drew1 HB5.out) hb)
                  have HG9 := Aside0.mk (blk_below (blk_drew HG5.out) hb)
                  have HK9 := Aside0.mk ((HK5.out.trans (Kept2.of_below (below_drew1 (Below.refl _ _)))).trans (Kept2.of_below hb))
                  clear hb
                  refine hK.out _ _ ⟨(blk_cell HG9.out 0).trans rfl, (blk_cell HG9.out 1).trans rfl⟩ (fun hHeld => ?_)
                  clear hK K
                  refine norm_ (a' := ?_) ?_ ?_
                  rotate_left
                  · show Act.put _ (some 65) _ = _
                    simp only [Act.put, List.setIfInBounds_toArray, List.set_cons_zero, List.set_cons_succ, i64_w, i32_w]
                    rfl
                  refine pure_ (i := 4) (N := some 66) (v := ?_) (a' := ?_) #[true, true, true, true, true, false, false, false, false, false, false, false] rfl rfl (by kernel_rfl) (fun _ _ _ h => h) (Or.inl ⟨by rfl, ?_⟩) ?_ ?_
                  rotate_left
                  · intro w'
                    go_simp
                    with_reducible rfl
                  rotate_left
                  · simp only [Act.put, List.setIfInBounds_toArray, List.set_cons_zero, List.set_cons_succ, i64_w, i32_w]
                    rfl
                  refine pure_ (i := 5) (N := some 67) (v := ?_) (a' := ?_) #[true, true, true, true, true, true, false, false, false, false, false, false] rfl rfl (by kernel_rfl) (fun _ _ _ h => h) (Or.inl ⟨by rfl, ?_⟩) ?_ ?_
                  rotate_left
                  · intro w'
                    go_simp
                    with_reducible rfl
                  rotate_left
                  · simp only [Act.put, List.setIfInBounds_toArray, List.set_cons_zero, List.set_cons_succ, i64_w, i32_w]
                    rfl
                  refine pure_ (i := 6) (N := some 68) (v := ?_) (a' := ?_) #[true, true, true, true, true, true, true, false, false, false, false, false] rfl rfl (by kernel_rfl) (fun _ _ _ h => h) (Or.inl ⟨by rfl, ?_⟩) ?_ ?_
                  rotate_left
                  · intro w'
                    go_simp
                    with_reducible rfl
                  rotate_left
                  · simp only [Act.put, List.setIfInBounds_toArray, List.set_cons_zero, List.set_cons_succ, i64_w, i32_w]
                    rfl
                  refine pure_ (i := 7) (N := some 69) (v := ?_) (a' := ?_) #[true, true, true, true, true, true, true, true, false, false, false, false] rfl rfl (by kernel_rfl) (fun _ _ _ h => h) (Or.inl ⟨by rfl, ?_⟩) ?_ ?_
                  rotate_left
                  · intro w'
                    go_simp
                    with_reducible rfl
                  rotate_left
                  · simp only [Act.put, List.setIfInBounds_toArray, List.set_cons_zero, List.set_cons_succ, i64_w, i32_w]
                    rfl
                  refine pure_ (i := 8) (N := some 70) (v := ?_) (a' := ?_) #[true, true, true, true, true, true, true, true, true, false, false, false] rfl rfl (by kernel_rfl) (fun _ _ _ h => h) (Or.inl ⟨by rfl, ?_⟩) ?_ ?_
                  rotate_left
                  · intro w'
                    go_simp
                    with_reducible rfl
                  rotate_left
                  · simp only [Act.put, List.setIfInBounds_toArray, List.set_cons_zero, List.set_cons_succ, i64_w, i32_w]
                    rfl
                  refine take_ (i := 9) (N := some 71) (v := ?_) (a' := ?_) #[true, true, true, true, true, true, true, true, true, true, false, false] rfl rfl (by kernel_rfl) (fun _ _ _ h => h) (Or.inl ⟨by rfl, ?_⟩) hHeld ?_ ?_
                  rotate_left
                  · rintro w' ⟨s0, s1⟩
                    go_simp
                    with_reducible rfl
                  rotate_left
                  · simp only [Act.put, List.setIfInBounds_toArray, List.set_cons_zero, List.set_cons_succ, i64_w, i32_w]
                    rfl
                  refine pure_ (i := 10) (N := some 72) (v := ?_) (a' := ?_) #[true, true, true, true, true, true, true, true, true, true, true, false] rfl rfl (by kernel_rfl) (fun _ _ _ h => h) (Or.inl ⟨by rfl, ?_⟩) ?_ ?_
                  rotate_left
                  · intro w'
                    go_simp
                    with_reducible rfl
                  rotate_left
                  · simp only [Act.put, List.setIfInBounds_toArray, List.set_cons_zero, List.set_cons_succ, i64_w, i32_w]
                    rfl
                  refine pure_ (i := 11) (N := some 73) (v := ?_) (a' := ?_) #[true, true, true, true, true, true, true, true, true, true, true, true] rfl rfl (by kernel_rfl) (fun _ _ _ h => h) (Or.inl ⟨by rfl, ?_⟩) ?_ ?_
                  rotate_left
                  · intro w'
                    go_simp
                    with_reducible rfl
                  rotate_left
                  · simp only [Act.put, List.setIfInBounds_toArray, List.set_cons_zero, List.set_cons_succ, i64_w, i32_w]
                    rfl
                  refine done_ (by kernel_rfl) ?_

                  go_wp2
                  go_ret2
                  have hx := HX.out
                  rw [HE.out, HE2.out, HE3.out, HT1.out] at hx
                  injection hx with x1 x2
                  injection x2 with x2 x3
                  injection x3 with x3 x4
                  subst x1 x2 x3
                  rw [← x4]
                  exact ⟨rfl, HI9.out, HB9.out, HG9.out, HK9.out⟩
                · have cz : decide (Z < 0) = false := decide_eq_false hz
                  have hw := HOK.out hn (by omega)
                  have HE0 := Aside0.mk (show gNr (v3, Z) s4 = ((rGet s4 (64 - v3 - Z)).1 * 2 ^ (Z).toNat, (rGet s4 (64 - v3 - Z)).2.1, (rGet s4 (64 - v3 - Z)).2.2, (v3, Z)) from if_neg (fun h => h.elim (fun h => by injection h with h1 h2; exact hn ⟨h1, h2⟩) hz))
                  obtain ⟨zn, hzn⟩ : ∃ zn : Nat, Z = (zn : Int) := ⟨_, (Int.toNat_of_nonneg (by omega)).symm⟩
                  obtain ⟨RW, hRW⟩ : ∃ RW : Nat, 64 - v3 - Z = (RW : Int) := ⟨_, (Int.toNat_of_nonneg (by omega)).symm⟩
                  have HRS := Aside0.mk (show gorilla_window_rest.f v3 Z = some (RW : Int) from by
                    unfold gorilla_window_rest.f
                    rw [show wrap64 (64 - v3) = 64 - v3 from wrap64_id (by omega) (by omega), wrap64_id (by omega) (by omega), hRW])
                  obtain ⟨v8, e8, s8, hr8, h8, b8, d8, k8⟩ := rGet_facts H015.out RW (by omega)
                  have HR8 := Aside0.mk hr8
                  rw [hRW, hr8, show (Z).toNat = zn from by omega] at HE0
                  have hsh : IntKind.u64.wrap (v8 * 2 ^ (Z).toNat) = v8 * 2 ^ zn := by rw [hzn, Int.toNat_natCast]; exact shl_fit b8 d8 (by omega)
                  have hz0 : 0 ≤ Z := by omega
                  have hz1 : Z ≤ 64 := by omega
                  have HZN := Aside0.mk hzn
                  clear hn hz hw hr8 h8 b8 d8 k8 HOK hzn hRW
                  go_upto_region 15 with (fail)
                  refine start_ (n := 12) (S := fun w' => w'.cell? ⟨gw, 0, none⟩ = some (.int .i64 v3) ∧ w'.cell? ⟨gw, 1, none⟩ = some (.int .i64 Z)) (ds := []) #[false, false, false, false, false, false, false, false, false, false, false, false] (by kernel_rfl) rfl rfl ⟨hcz0, hcz1⟩ (fun hHeld => ?_)
                  refine pure_ (i := 0) (N := some 62) (v := ?_) (a' := ?_) #[true, false, false, false, false, false, false, false, false, false, false, false] rfl rfl (by kernel_rfl) (fun _ _ _ h => h) (Or.inl ⟨by rfl, ?_⟩) ?_ ?_
                  rotate_left
                  · intro w'
                    go_simp
                    with_reducible rfl
                  rotate_left
                  · simp only [Act.put, List.setIfInBounds_toArray, List.set_cons_zero, List.set_cons_succ, i64_w, i32_w]
                    rfl
                  refine pure_ (i := 1) (N := some 63) (v := ?_) (a' := ?_) #[true, true, false, false, false, false, false, false, false, false, false, false] rfl rfl (by kernel_rfl) (fun _ _ _ h => h) (Or.inl ⟨by rfl, ?_⟩) ?_ ?_
                  rotate_left
                  · intro w'
                    go_simp
                    with_reducible rfl
                  rotate_left
                  · simp only [Act.put, List.setIfInBounds_toArray, List.set_cons_zero, List.set_cons_succ, i64_w, i32_w]
                    rfl
                  refine take_ (i := 2) (N := some 64) (v := ?_) (a' := ?_) #[true, true, true, false, false, false, false, false, false, false, false, false] rfl rfl (by kernel_rfl) (fun _ _ _ h => h) (Or.inl ⟨by rfl, ?_⟩) hHeld ?_ ?_
                  rotate_left
                  · rintro w' ⟨s0, s1⟩
                    go_simp
                    with_reducible rfl
                  rotate_left
                  · simp only [Act.put, List.setIfInBounds_toArray, List.set_cons_zero, List.set_cons_succ, i64_w, i32_w]
                    rfl
                  refine one_ (i := 3) (N := some 65) #[true, true, true, true, false, false, false, false, false, false, false, false] rfl rfl (by kernel_rfl) (by decide) (fun K hK => ?_)
                  refine goes_ Tryd.func16 (by kernel_rfl) rfl #[] (by rfl) rfl rfl (by simp only [List.map_toArray, List.map_cons, List.map_nil]; first | done | rfl) ?_
                  with_reducible refine (gorilla_none.calls (-1) 0 _ rfl).mono ?_
                  rintro e w9 ⟨rfl, hb⟩
                  refine ⟨_, rfl, ?_⟩
                  have HI9 := Aside0.mk (IsS70.below HI5.out.drew hb)
                  have HB9 := Aside0.mk (below_step (below_drew1 HB5.out) hb)
                  have HG9 := Aside0.mk (blk_below (blk_drew HG5.out) hb)
                  have HK9 := Aside0.mk ((HK5.out.trans (Kept2.of_below (below_drew1 (Below.refl _ _)))).trans (Kept2.of_below hb))
                  clear hb
                  refine hK.out _ _ ⟨(blk_cell HG9.out 0).trans rfl, (blk_cell HG9.out 1).trans rfl⟩ (fun hHeld => ?_)
                  clear hK K
                  refine norm_ (a' := ?_) ?_ ?_
                  rotate_left
                  · show Act.put _ (some 65) _ = _
                    simp only [Act.put, List.setIfInBounds_toArray, List.set_cons_zero, List.set_cons_succ, i64_w, i32_w]
                    rfl
                  refine pure_ (i := 4) (N := some 66) (v := ?_) (a' := ?_) #[true, true, true, true, true, false, false, false, false, false, false, false] rfl rfl (by kernel_rfl) (fun _ _ _ h => h) (Or.inl ⟨by rfl, ?_⟩) ?_ ?_
                  rotate_left
                  · intro w'
                    go_simp
                    with_reducible rfl
                  rotate_left
                  · simp only [Act.put, List.setIfInBounds_toArray, List.set_cons_zero, List.set_cons_succ, i64_w, i32_w]
                    rfl
                  refine pure_ (i := 5) (N := some 67) (v := ?_) (a' := ?_) #[true, true, true, true, true, true, false, false, false, false, false, false] rfl rfl (by kernel_rfl) (fun _ _ _ h => h) (Or.inl ⟨by rfl, ?_⟩) ?_ ?_
                  rotate_left
                  · intro w'
                    go_simp
                    with_reducible rfl
                  rotate_left
                  · simp only [Act.put, List.setIfInBounds_toArray, List.set_cons_zero, List.set_cons_succ, i64_w, i32_w]
                    rfl
                  refine pure_ (i := 6) (N := some 68) (v := ?_) (a' := ?_) #[true, true, true, true, true, true, true, false, false, false, false, false] rfl rfl (by kernel_rfl) (fun _ _ _ h => h) (Or.inl ⟨by rfl, ?_⟩) ?_ ?_
                  rotate_left
                  · intro w'
                    go_simp
                    with_reducible rfl
                  rotate_left
                  · simp only [Act.put, List.setIfInBounds_toArray, List.set_cons_zero, List.set_cons_succ, i64_w, i32_w]
                    rfl
                  refine pure_ (i := 7) (N := some 69) (v := ?_) (a' := ?_) #[true, true, true, true, true, true, true, true, false, false, false, false] rfl rfl (by kernel_rfl) (fun _ _ _ h => h) (Or.inl ⟨by rfl, ?_⟩) ?_ ?_
                  rotate_left
                  · intro w'
                    go_simp
                    with_reducible rfl
                  rotate_left
                  · simp only [Act.put, List.setIfInBounds_toArray, List.set_cons_zero, List.set_cons_succ, i64_w, i32_w]
                    rfl
                  refine pure_ (i := 8) (N := some 70) (v := ?_) (a' := ?_) #[true, true, true, true, true, true, true, true, true, false, false, false] rfl rfl (by kernel_rfl) (fun _ _ _ h => h) (Or.inl ⟨by rfl, ?_⟩) ?_ ?_
                  rotate_left
                  · intro w'
                    go_simp
                    with_reducible rfl
                  rotate_left
                  · simp only [Act.put, List.setIfInBounds_toArray, List.set_cons_zero, List.set_cons_succ, i64_w, i32_w]
                    rfl
                  refine take_ (i := 9) (N := some 71) (v := ?_) (a' := ?_) #[true, true, true, true, true, true, true, true, true, true, false, false] rfl rfl (by kernel_rfl) (fun _ _ _ h => h) (Or.inl ⟨by rfl, ?_⟩) hHeld ?_ ?_
                  rotate_left
                  · rintro w' ⟨s0, s1⟩
                    go_simp
                    with_reducible rfl
                  rotate_left
                  · simp only [Act.put, List.setIfInBounds_toArray, List.set_cons_zero, List.set_cons_succ, i64_w, i32_w]
                    rfl
                  refine pure_ (i := 10) (N := some 72) (v := ?_) (a' := ?_) #[true, true, true, true, true, true, true, true, true, true, true, false] rfl rfl (by kernel_rfl) (fun _ _ _ h => h) (Or.inl ⟨by rfl, ?_⟩) ?_ ?_
                  rotate_left
                  · intro w'
                    go_simp
                    with_reducible rfl
                  rotate_left
                  · simp only [Act.put, List.setIfInBounds_toArray, List.set_cons_zero, List.set_cons_succ, i64_w, i32_w]
                    rfl
                  refine pure_ (i := 11) (N := some 73) (v := ?_) (a' := ?_) #[true, true, true, true, true, true, true, true, true, true, true, true] rfl rfl (by kernel_rfl) (fun _ _ _ h => h) (Or.inl ⟨by rfl, ?_⟩) ?_ ?_
                  rotate_left
                  · intro w'
                    go_simp
                    with_reducible rfl
                  rotate_left
                  · simp only [Act.put, List.setIfInBounds_toArray, List.set_cons_zero, List.set_cons_succ, i64_w, i32_w]
                    rfl
                  refine done_ (by kernel_rfl) ?_

                  clear hcz0 hcz1
                  have hcz0 : w9.cell? ⟨gw, 0, none⟩ = some (.int .i64 v3) := (blk_cell HG9.out 0).trans rfl
                  have hcz1 : w9.cell? ⟨gw, 1, none⟩ = some (.int .i64 Z) := (blk_cell HG9.out 1).trans rfl
                  go_wp2_with (fail)
                  refine (gorilla_window_rest.calls _ _ (RW : Int) _ HRS.out).mono ?_
                  rintro q w10 ⟨rfl, hb⟩
                  have HI10 := Aside0.mk (HI9.out.below hb)
                  have HB10 := Aside0.mk (below_step HB9.out hb)
                  have HG10 := Aside0.mk (blk_below HG9.out hb)
                  have HK10 := Aside0.mk (HK9.out.trans (Kept2.of_below hb))
                  clear hb
                  go_wp2_with (fail)
                  refine (Get_beside g gw s4 (RW : Int) v8 e8 s8 _ w0 _ w HI10.out HB10.out HG10.out HK10.out HR8.out).mono ?_
                  rintro q w8 ⟨rfl, hi, hb, hg, hk⟩
                  have HI8 := Aside0.mk hi
                  have HB8 := Aside0.mk hb
                  have HG8 := Aside0.mk hg
                  have HK8 := Aside0.mk hk
                  clear hi hb hg hk
                  clear hcz0 hcz1
                  have hcz0 : w8.cell? ⟨gw, 0, none⟩ = some (.int .i64 v3) := (blk_cell HG8.out 0).trans rfl
                  have hcz1 : w8.cell? ⟨gw, 1, none⟩ = some (.int .i64 Z) := (blk_cell HG8.out 1).trans rfl
                  go_wp2
                  go_ret2
                  have hx := HX.out
                  rw [HE.out, HE2.out, HE3.out, HE0.out] at hx
                  injection hx with x1 x2
                  injection x2 with x2 x3
                  injection x3 with x3 x4
                  subst x1 x2 x3
                  rw [← x4]
                  exact ⟨rfl, HI8.out, HB8.out, HG8.out, HK8.out⟩
            · have ce4 : (e4 == 0) = false := by rw [beq_eq_false_iff_ne]; exact he4
              have HE3 := Aside0.mk ((HX3.out.trans (if_neg (fun h => h rfl))).trans (if_pos he4))
              clear he4
              go_wp2
              go_ret2
              have hx := HX.out
              rw [HE.out, HE2.out, HE3.out] at hx
              injection hx with x1 x2
              injection x2 with x2 x3
              injection x3 with x3 x4
              subst x1 x2 x3
              rw [← x4]
              exact ⟨rfl, HI4.out, HB4.out, HG4.out, HK4.out⟩
          · have ce3 : (e3 == 0) = false := by rw [beq_eq_false_iff_ne]; exact he3
            have HE3 := Aside0.mk (HX3.out.trans (if_pos he3))
            clear he3 b3 d3 k3 b4 d4 k4
            go_wp2
            go_ret2
            have hx := HX.out
            rw [HE.out, HE2.out, HE3.out] at hx
            injection hx with x1 x2
            injection x2 with x2 x3
            injection x3 with x3 x4
            subst x1 x2 x3
            rw [← x4]
            exact ⟨rfl, HI3.out, HB3.out, HG3.out, HK3.out⟩
        · have cv2 : (v2 == 1) = false := by rw [beq_eq_false_iff_ne]; exact hv2
          have HE2 := Aside0.mk ((HX2.out.trans (if_neg (fun h => h rfl))).trans (if_neg hv2))
          clear hv2
          have hcz0 : w2.cell? ⟨gw, 0, none⟩ = some (.int .i64 a) := (blk_cell HG2.out 0).trans rfl
          have hcz1 : w2.cell? ⟨gw, 1, none⟩ = some (.int .i64 z) := (blk_cell HG2.out 1).trans rfl
          by_cases hn : a = -1 ∧ z = 0
          · have hq : ∀ w, (binOp .eql 42 (.agg #[.int .i64 a, .int .i64 z]) (.agg #[.int .i64 (-1), .int .i64 0])).run Tryd.prog w = .ok (.bool true) w := fun w => by rw [weq, hn.1, hn.2]; rfl
            have HT1 := Aside0.mk (show gNr (a, z) s2 = (0, 3, s2, (a, z)) from if_pos (.inl (by rw [hn.1, hn.2])))
            clear hn HOK
            go_upto_region 15 with (fail)
            refine start_ (n := 12) (S := fun w' => w'.cell? ⟨gw, 0, none⟩ = some (.int .i64 a) ∧ w'.cell? ⟨gw, 1, none⟩ = some (.int .i64 z)) (ds := []) #[false, false, false, false, false, false, false, false, false, false, false, false] (by kernel_rfl) rfl rfl ⟨hcz0, hcz1⟩ (fun hHeld => ?_)
            refine pure_ (i := 0) (N := some 62) (v := ?_) (a' := ?_) #[true, false, false, false, false, false, false, false, false, false, false, false] rfl rfl (by kernel_rfl) (fun _ _ _ h => h) (Or.inl ⟨by rfl, ?_⟩) ?_ ?_
            rotate_left
            · intro w'
              go_simp
              with_reducible rfl
            rotate_left
            · simp only [Act.put, List.setIfInBounds_toArray, List.set_cons_zero, List.set_cons_succ, i64_w, i32_w]
              rfl
            refine pure_ (i := 1) (N := some 63) (v := ?_) (a' := ?_) #[true, true, false, false, false, false, false, false, false, false, false, false] rfl rfl (by kernel_rfl) (fun _ _ _ h => h) (Or.inl ⟨by rfl, ?_⟩) ?_ ?_
            rotate_left
            · intro w'
              go_simp
              with_reducible rfl
            rotate_left
            · simp only [Act.put, List.setIfInBounds_toArray, List.set_cons_zero, List.set_cons_succ, i64_w, i32_w]
              rfl
            refine take_ (i := 2) (N := some 64) (v := ?_) (a' := ?_) #[true, true, true, false, false, false, false, false, false, false, false, false] rfl rfl (by kernel_rfl) (fun _ _ _ h => h) (Or.inl ⟨by rfl, ?_⟩) hHeld ?_ ?_
            rotate_left
            · rintro w' ⟨s0, s1⟩
              go_simp
              with_reducible rfl
            rotate_left
            · simp only [Act.put, List.setIfInBounds_toArray, List.set_cons_zero, List.set_cons_succ, i64_w, i32_w]
              rfl
            refine one_ (i := 3) (N := some 65) #[true, true, true, true, false, false, false, false, false, false, false, false] rfl rfl (by kernel_rfl) (by decide) (fun K hK => ?_)
            refine goes_ Tryd.func16 (by kernel_rfl) rfl #[] (by rfl) rfl rfl (by simp only [List.map_toArray, List.map_cons, List.map_nil]; first | done | rfl) ?_
            with_reducible refine (gorilla_none.calls (-1) 0 _ rfl).mono ?_
            rintro e w9 ⟨rfl, hb⟩
            refine ⟨_, rfl, ?_⟩
            have HI9 := Aside0.mk (IsS70.below HI2.out.drew hb)
            have HB9 := Aside0.mk (below_step (below_drew1 HB2.out) hb)
            have HG9 := Aside0.mk (blk_below (blk_drew HG2.out) hb)
            have HK9 := Aside0.mk ((HK2.out.trans (Kept2.of_below (below_drew1 (Below.refl _ _)))).trans (Kept2.of_below hb))
            clear hb
            refine hK.out _ _ ⟨(blk_cell HG9.out 0).trans rfl, (blk_cell HG9.out 1).trans rfl⟩ (fun hHeld => ?_)
            clear hK K
            refine norm_ (a' := ?_) ?_ ?_
            rotate_left
            · show Act.put _ (some 65) _ = _
              simp only [Act.put, List.setIfInBounds_toArray, List.set_cons_zero, List.set_cons_succ, i64_w, i32_w]
              rfl
            refine pure_ (i := 4) (N := some 66) (v := ?_) (a' := ?_) #[true, true, true, true, true, false, false, false, false, false, false, false] rfl rfl (by kernel_rfl) (fun _ _ _ h => h) (Or.inl ⟨by rfl, ?_⟩) ?_ ?_
            rotate_left
            · intro w'
              go_simp
              with_reducible rfl
            rotate_left
            · simp only [Act.put, List.setIfInBounds_toArray, List.set_cons_zero, List.set_cons_succ, i64_w, i32_w]
              rfl
            refine pure_ (i := 5) (N := some 67) (v := ?_) (a' := ?_) #[true, true, true, true, true, true, false, false, false, false, false, false] rfl rfl (by kernel_rfl) (fun _ _ _ h => h) (Or.inl ⟨by rfl, ?_⟩) ?_ ?_
            rotate_left
            · intro w'
              go_simp
              with_reducible rfl
            rotate_left
            · simp only [Act.put, List.setIfInBounds_toArray, List.set_cons_zero, List.set_cons_succ, i64_w, i32_w]
              rfl
            refine pure_ (i := 6) (N := some 68) (v := undef) (a' := ?_) #[true, true, true, true, true, true, true, false, false, false, false, false] rfl rfl (by kernel_rfl) (fun _ _ _ h => h) (Or.inr ⟨by rfl, rfl⟩) ?_ ?_
            rotate_left
            · simp only [Act.put, List.setIfInBounds_toArray, List.set_cons_zero, List.set_cons_succ, i64_w, i32_w]
              rfl
            refine pure_ (i := 7) (N := some 69) (v := undef) (a' := ?_) #[true, true, true, true, true, true, true, true, false, false, false, false] rfl rfl (by kernel_rfl) (fun _ _ _ h => h) (Or.inr ⟨by rfl, rfl⟩) ?_ ?_
            rotate_left
            · simp only [Act.put, List.setIfInBounds_toArray, List.set_cons_zero, List.set_cons_succ, i64_w, i32_w]
              rfl
            refine pure_ (i := 8) (N := some 70) (v := undef) (a' := ?_) #[true, true, true, true, true, true, true, true, true, false, false, false] rfl rfl (by kernel_rfl) (fun _ _ _ h => h) (Or.inr ⟨by rfl, rfl⟩) ?_ ?_
            rotate_left
            · simp only [Act.put, List.setIfInBounds_toArray, List.set_cons_zero, List.set_cons_succ, i64_w, i32_w]
              rfl
            refine pure_ (i := 9) (N := some 71) (v := undef) (a' := ?_) #[true, true, true, true, true, true, true, true, true, true, false, false] rfl rfl (by kernel_rfl) (fun _ _ _ h => h) (Or.inr ⟨by rfl, rfl⟩) ?_ ?_
            rotate_left
            · simp only [Act.put, List.setIfInBounds_toArray, List.set_cons_zero, List.set_cons_succ, i64_w, i32_w]
              rfl
            refine pure_ (i := 10) (N := some 72) (v := undef) (a' := ?_) #[true, true, true, true, true, true, true, true, true, true, true, false] rfl rfl (by kernel_rfl) (fun _ _ _ h => h) (Or.inr ⟨by rfl, rfl⟩) ?_ ?_
            rotate_left
            · simp only [Act.put, List.setIfInBounds_toArray, List.set_cons_zero, List.set_cons_succ, i64_w, i32_w]
              rfl
            refine pure_ (i := 11) (N := some 73) (v := ?_) (a' := ?_) #[true, true, true, true, true, true, true, true, true, true, true, true] rfl rfl (by kernel_rfl) (fun _ _ _ h => h) (Or.inl ⟨by rfl, ?_⟩) ?_ ?_
            rotate_left
            · intro w'
              go_simp
              with_reducible rfl
            rotate_left
            · simp only [Act.put, List.setIfInBounds_toArray, List.set_cons_zero, List.set_cons_succ, i64_w, i32_w]
              rfl
            refine done_ (by kernel_rfl) ?_

            go_wp2
            go_ret2
            have hx := HX.out
            rw [HE.out, HE2.out, HT1.out] at hx
            injection hx with x1 x2
            injection x2 with x2 x3
            injection x3 with x3 x4
            subst x1 x2 x3
            rw [← x4]
            exact ⟨rfl, HI9.out, HB9.out, HG9.out, HK9.out⟩
          · have hq : ∀ w, (binOp .eql 42 (.agg #[.int .i64 a, .int .i64 z]) (.agg #[.int .i64 (-1), .int .i64 0])).run Tryd.prog w = .ok (.bool false) w := fun w => by rw [weq]; exact congrArg (fun b => Result.ok (Value.bool b) w) (wnone hn)
            by_cases hz : z < 0
            · have cz : decide (z < 0) = true := decide_eq_true hz
              have HT1 := Aside0.mk (show gNr (a, z) s2 = (0, 3, s2, (a, z)) from if_pos (.inr hz))
              clear hn hz HOK
              go_upto_region 15 with (fail)
              refine start_ (n := 12) (S := fun w' => w'.cell? ⟨gw, 0, none⟩ = some (.int .i64 a) ∧ w'.cell? ⟨gw, 1, none⟩ = some (.int .i64 z)) (ds := []) #[false, false, false, false, false, false, false, false, false, false, false, false] (by kernel_rfl) rfl rfl ⟨hcz0, hcz1⟩ (fun hHeld => ?_)
              refine pure_ (i := 0) (N := some 62) (v := ?_) (a' := ?_) #[true, false, false, false, false, false, false, false, false, false, false, false] rfl rfl (by kernel_rfl) (fun _ _ _ h => h) (Or.inl ⟨by rfl, ?_⟩) ?_ ?_
              rotate_left
              · intro w'
                go_simp
                with_reducible rfl
              rotate_left
              · simp only [Act.put, List.setIfInBounds_toArray, List.set_cons_zero, List.set_cons_succ, i64_w, i32_w]
                rfl
              refine pure_ (i := 1) (N := some 63) (v := ?_) (a' := ?_) #[true, true, false, false, false, false, false, false, false, false, false, false] rfl rfl (by kernel_rfl) (fun _ _ _ h => h) (Or.inl ⟨by rfl, ?_⟩) ?_ ?_
              rotate_left
              · intro w'
                go_simp
                with_reducible rfl
              rotate_left
              · simp only [Act.put, List.setIfInBounds_toArray, List.set_cons_zero, List.set_cons_succ, i64_w, i32_w]
                rfl
              refine take_ (i := 2) (N := some 64) (v := ?_) (a' := ?_) #[true, true, true, false, false, false, false, false, false, false, false, false] rfl rfl (by kernel_rfl) (fun _ _ _ h => h) (Or.inl ⟨by rfl, ?_⟩) hHeld ?_ ?_
              rotate_left
              · rintro w' ⟨s0, s1⟩
                go_simp
                with_reducible rfl
              rotate_left
              · simp only [Act.put, List.setIfInBounds_toArray, List.set_cons_zero, List.set_cons_succ, i64_w, i32_w]
                rfl
              refine one_ (i := 3) (N := some 65) #[true, true, true, true, false, false, false, false, false, false, false, false] rfl rfl (by kernel_rfl) (by decide) (fun K hK => ?_)
              refine goes_ Tryd.func16 (by kernel_rfl) rfl #[] (by rfl) rfl rfl (by simp only [List.map_toArray, List.map_cons, List.map_nil]; first | done | rfl) ?_
              with_reducible refine (gorilla_none.calls (-1) 0 _ rfl).mono ?_
              rintro e w9 ⟨rfl, hb⟩
              refine ⟨_, rfl, ?_⟩
              have HI9 := Aside0.mk (IsS70.below HI2.out.drew hb)
              have HB9 := Aside0.mk (below_step (below_drew1 HB2.out) hb)
              have HG9 := Aside0.mk (blk_below (blk_drew HG2.out) hb)
              have HK9 := Aside0.mk ((HK2.out.trans (Kept2.of_below (below_drew1 (Below.refl _ _)))).trans (Kept2.of_below hb))
              clear hb
              refine hK.out _ _ ⟨(blk_cell HG9.out 0).trans rfl, (blk_cell HG9.out 1).trans rfl⟩ (fun hHeld => ?_)
              clear hK K
              refine norm_ (a' := ?_) ?_ ?_
              rotate_left
              · show Act.put _ (some 65) _ = _
                simp only [Act.put, List.setIfInBounds_toArray, List.set_cons_zero, List.set_cons_succ, i64_w, i32_w]
                rfl
              refine pure_ (i := 4) (N := some 66) (v := ?_) (a' := ?_) #[true, true, true, true, true, false, false, false, false, false, false, false] rfl rfl (by kernel_rfl) (fun _ _ _ h => h) (Or.inl ⟨by rfl, ?_⟩) ?_ ?_
              rotate_left
              · intro w'
                go_simp
                with_reducible rfl
              rotate_left
              · simp only [Act.put, List.setIfInBounds_toArray, List.set_cons_zero, List.set_cons_succ, i64_w, i32_w]
                rfl
              refine pure_ (i := 5) (N := some 67) (v := ?_) (a' := ?_) #[true, true, true, true, true, true, false, false, false, false, false, false] rfl rfl (by kernel_rfl) (fun _ _ _ h => h) (Or.inl ⟨by rfl, ?_⟩) ?_ ?_
              rotate_left
              · intro w'
                go_simp
                with_reducible rfl
              rotate_left
              · simp only [Act.put, List.setIfInBounds_toArray, List.set_cons_zero, List.set_cons_succ, i64_w, i32_w]
                rfl
              refine pure_ (i := 6) (N := some 68) (v := ?_) (a' := ?_) #[true, true, true, true, true, true, true, false, false, false, false, false] rfl rfl (by kernel_rfl) (fun _ _ _ h => h) (Or.inl ⟨by rfl, ?_⟩) ?_ ?_
              rotate_left
              · intro w'
                go_simp
                with_reducible rfl
              rotate_left
              · simp only [Act.put, List.setIfInBounds_toArray, List.set_cons_zero, List.set_cons_succ, i64_w, i32_w]
                rfl
              refine pure_ (i := 7) (N := some 69) (v := ?_) (a' := ?_) #[true, true, true, true, true, true, true, true, false, false, false, false] rfl rfl (by kernel_rfl) (fun _ _ _ h => h) (Or.inl ⟨by rfl, ?_⟩) ?_ ?_
              rotate_left
              · intro w'
                go_simp
                with_reducible rfl
              rotate_left
              · simp only [Act.put, List.setIfInBounds_toArray, List.set_cons_zero, List.set_cons_succ, i64_w, i32_w]
                rfl
              refine pure_ (i := 8) (N := some 70) (v := ?_) (a' := ?_) #[true, true, true, true, true, true, true, true, true, false, false, false] rfl rfl (by kernel_rfl) (fun _ _ _ h => h) (Or.inl ⟨by rfl, ?_⟩) ?_ ?_
              rotate_left
              · intro w'
                go_simp
                with_reducible rfl
              rotate_left
              · simp only [Act.put, List.setIfInBounds_toArray, List.set_cons_zero, List.set_cons_succ, i64_w, i32_w]
                rfl
              refine take_ (i := 9) (N := some 71) (v := ?_) (a' := ?_) #[true, true, true, true, true, true, true, true, true, true, false, false] rfl rfl (by kernel_rfl) (fun _ _ _ h => h) (Or.inl ⟨by rfl, ?_⟩) hHeld ?_ ?_
              rotate_left
              · rintro w' ⟨s0, s1⟩
                go_simp
                with_reducible rfl
              rotate_left
              · simp only [Act.put, List.setIfInBounds_toArray, List.set_cons_zero, List.set_cons_succ, i64_w, i32_w]
                rfl
              refine pure_ (i := 10) (N := some 72) (v := ?_) (a' := ?_) #[true, true, true, true, true, true, true, true, true, true, true, false] rfl rfl (by kernel_rfl) (fun _ _ _ h => h) (Or.inl ⟨by rfl, ?_⟩) ?_ ?_
              rotate_left
              · intro w'
                go_simp
                with_reducible rfl
              rotate_left
              · simp only [Act.put, List.setIfInBounds_toArray, List.set_cons_zero, List.set_cons_succ, i64_w, i32_w]
                rfl
              refine pure_ (i := 11) (N := some 73) (v := ?_) (a' := ?_) #[true, true, true, true, true, true, true, true, true, true, true, true] rfl rfl (by kernel_rfl) (fun _ _ _ h => h) (Or.inl ⟨by rfl, ?_⟩) ?_ ?_
              rotate_left
              · intro w'
                go_simp
                with_reducible rfl
              rotate_left
              · simp only [Act.put, List.setIfInBounds_toArray, List.set_cons_zero, List.set_cons_succ, i64_w, i32_w]
                rfl
              refine done_ (by kernel_rfl) ?_

              go_wp2
              go_ret2
              have hx := HX.out
              rw [HE.out, HE2.out, HT1.out] at hx
              injection hx with x1 x2
              injection x2 with x2 x3
              injection x3 with x3 x4
              subst x1 x2 x3
              rw [← x4]
              exact ⟨rfl, HI9.out, HB9.out, HG9.out, HK9.out⟩
            · have cz : decide (z < 0) = false := decide_eq_false hz
              have hw := HOK.out hn (by omega)
              have HE0 := Aside0.mk (show gNr (a, z) s2 = ((rGet s2 (64 - a - z)).1 * 2 ^ (z).toNat, (rGet s2 (64 - a - z)).2.1, (rGet s2 (64 - a - z)).2.2, (a, z)) from if_neg (fun h => h.elim (fun h => by injection h with h1 h2; exact hn ⟨h1, h2⟩) hz))
              obtain ⟨zn, hzn⟩ : ∃ zn : Nat, z = (zn : Int) := ⟨_, (Int.toNat_of_nonneg (by omega)).symm⟩
              obtain ⟨RW, hRW⟩ : ∃ RW : Nat, 64 - a - z = (RW : Int) := ⟨_, (Int.toNat_of_nonneg (by omega)).symm⟩
              have HRS := Aside0.mk (show gorilla_window_rest.f a z = some (RW : Int) from by
                unfold gorilla_window_rest.f
                rw [show wrap64 (64 - a) = 64 - a from wrap64_id (by omega) (by omega), wrap64_id (by omega) (by omega), hRW])
              obtain ⟨v8, e8, s8, hr8, h8, b8, d8, k8⟩ := rGet_facts H012.out RW (by omega)
              have HR8 := Aside0.mk hr8
              rw [hRW, hr8, show (z).toNat = zn from by omega] at HE0
              have hsh : IntKind.u64.wrap (v8 * 2 ^ (z).toNat) = v8 * 2 ^ zn := by rw [hzn, Int.toNat_natCast]; exact shl_fit b8 d8 (by omega)
              have hz0 : 0 ≤ z := by omega
              have hz1 : z ≤ 64 := by omega
              have HZN := Aside0.mk hzn
              clear hn hz hw hr8 h8 b8 d8 k8 HOK hzn hRW
              go_upto_region 15 with (fail)
              refine start_ (n := 12) (S := fun w' => w'.cell? ⟨gw, 0, none⟩ = some (.int .i64 a) ∧ w'.cell? ⟨gw, 1, none⟩ = some (.int .i64 z)) (ds := []) #[false, false, false, false, false, false, false, false, false, false, false, false] (by kernel_rfl) rfl rfl ⟨hcz0, hcz1⟩ (fun hHeld => ?_)
              refine pure_ (i := 0) (N := some 62) (v := ?_) (a' := ?_) #[true, false, false, false, false, false, false, false, false, false, false, false] rfl rfl (by kernel_rfl) (fun _ _ _ h => h) (Or.inl ⟨by rfl, ?_⟩) ?_ ?_
              rotate_left
              · intro w'
                go_simp
                with_reducible rfl
              rotate_left
              · simp only [Act.put, List.setIfInBounds_toArray, List.set_cons_zero, List.set_cons_succ, i64_w, i32_w]
                rfl
              refine pure_ (i := 1) (N := some 63) (v := ?_) (a' := ?_) #[true, true, false, false, false, false, false, false, false, false, false, false] rfl rfl (by kernel_rfl) (fun _ _ _ h => h) (Or.inl ⟨by rfl, ?_⟩) ?_ ?_
              rotate_left
              · intro w'
                go_simp
                with_reducible rfl
              rotate_left
              · simp only [Act.put, List.setIfInBounds_toArray, List.set_cons_zero, List.set_cons_succ, i64_w, i32_w]
                rfl
              refine take_ (i := 2) (N := some 64) (v := ?_) (a' := ?_) #[true, true, true, false, false, false, false, false, false, false, false, false] rfl rfl (by kernel_rfl) (fun _ _ _ h => h) (Or.inl ⟨by rfl, ?_⟩) hHeld ?_ ?_
              rotate_left
              · rintro w' ⟨s0, s1⟩
                go_simp
                with_reducible rfl
              rotate_left
              · simp only [Act.put, List.setIfInBounds_toArray, List.set_cons_zero, List.set_cons_succ, i64_w, i32_w]
                rfl
              refine one_ (i := 3) (N := some 65) #[true, true, true, true, false, false, false, false, false, false, false, false] rfl rfl (by kernel_rfl) (by decide) (fun K hK => ?_)
              refine goes_ Tryd.func16 (by kernel_rfl) rfl #[] (by rfl) rfl rfl (by simp only [List.map_toArray, List.map_cons, List.map_nil]; first | done | rfl) ?_
              with_reducible refine (gorilla_none.calls (-1) 0 _ rfl).mono ?_
              rintro e w9 ⟨rfl, hb⟩
              refine ⟨_, rfl, ?_⟩
              have HI9 := Aside0.mk (IsS70.below HI2.out.drew hb)
              have HB9 := Aside0.mk (below_step (below_drew1 HB2.out) hb)
              have HG9 := Aside0.mk (blk_below (blk_drew HG2.out) hb)
              have HK9 := Aside0.mk ((HK2.out.trans (Kept2.of_below (below_drew1 (Below.refl _ _)))).trans (Kept2.of_below hb))
              clear hb
              refine hK.out _ _ ⟨(blk_cell HG9.out 0).trans rfl, (blk_cell HG9.out 1).trans rfl⟩ (fun hHeld => ?_)
              clear hK K
              refine norm_ (a' := ?_) ?_ ?_
              rotate_left
              · show Act.put _ (some 65) _ = _
                simp only [Act.put, List.setIfInBounds_toArray, List.set_cons_zero, List.set_cons_succ, i64_w, i32_w]
                rfl
              refine pure_ (i := 4) (N := some 66) (v := ?_) (a' := ?_) #[true, true, true, true, true, false, false, false, false, false, false, false] rfl rfl (by kernel_rfl) (fun _ _ _ h => h) (Or.inl ⟨by rfl, ?_⟩) ?_ ?_
              rotate_left
              · intro w'
                go_simp
                with_reducible rfl
              rotate_left
              · simp only [Act.put, List.setIfInBounds_toArray, List.set_cons_zero, List.set_cons_succ, i64_w, i32_w]
                rfl
              refine pure_ (i := 5) (N := some 67) (v := ?_) (a' := ?_) #[true, true, true, true, true, true, false, false, false, false, false, false] rfl rfl (by kernel_rfl) (fun _ _ _ h => h) (Or.inl ⟨by rfl, ?_⟩) ?_ ?_
              rotate_left
              · intro w'
                go_simp
                with_reducible rfl
              rotate_left
              · simp only [Act.put, List.setIfInBounds_toArray, List.set_cons_zero, List.set_cons_succ, i64_w, i32_w]
                rfl
              refine pure_ (i := 6) (N := some 68) (v := ?_) (a' := ?_) #[true, true, true, true, true, true, true, false, false, false, false, false] rfl rfl (by kernel_rfl) (fun _ _ _ h => h) (Or.inl ⟨by rfl, ?_⟩) ?_ ?_
              rotate_left
              · intro w'
                go_simp
                with_reducible rfl
              rotate_left
              · simp only [Act.put, List.setIfInBounds_toArray, List.set_cons_zero, List.set_cons_succ, i64_w, i32_w]
                rfl
              refine pure_ (i := 7) (N := some 69) (v := ?_) (a' := ?_) #[true, true, true, true, true, true, true, true, false, false, false, false] rfl rfl (by kernel_rfl) (fun _ _ _ h => h) (Or.inl ⟨by rfl, ?_⟩) ?_ ?_
              rotate_left
              · intro w'
                go_simp
                with_reducible rfl
              rotate_left
              · simp only [Act.put, List.setIfInBounds_toArray, List.set_cons_zero, List.set_cons_succ, i64_w, i32_w]
                rfl
              refine pure_ (i := 8) (N := some 70) (v := ?_) (a' := ?_) #[true, true, true, true, true, true, true, true, true, false, false, false] rfl rfl (by kernel_rfl) (fun _ _ _ h => h) (Or.inl ⟨by rfl, ?_⟩) ?_ ?_
              rotate_left
              · intro w'
                go_simp
                with_reducible rfl
              rotate_left
              · simp only [Act.put, List.setIfInBounds_toArray, List.set_cons_zero, List.set_cons_succ, i64_w, i32_w]
                rfl
              refine take_ (i := 9) (N := some 71) (v := ?_) (a' := ?_) #[true, true, true, true, true, true, true, true, true, true, false, false] rfl rfl (by kernel_rfl) (fun _ _ _ h => h) (Or.inl ⟨by rfl, ?_⟩) hHeld ?_ ?_
              rotate_left
              · rintro w' ⟨s0, s1⟩
                go_simp
                with_reducible rfl
              rotate_left
              · simp only [Act.put, List.setIfInBounds_toArray, List.set_cons_zero, List.set_cons_succ, i64_w, i32_w]
                rfl
              refine pure_ (i := 10) (N := some 72) (v := ?_) (a' := ?_) #[true, true, true, true, true, true, true, true, true, true, true, false] rfl rfl (by kernel_rfl) (fun _ _ _ h => h) (Or.inl ⟨by rfl, ?_⟩) ?_ ?_
              rotate_left
              · intro w'
                go_simp
                with_reducible rfl
              rotate_left
              · simp only [Act.put, List.setIfInBounds_toArray, List.set_cons_zero, List.set_cons_succ, i64_w, i32_w]
                rfl
              refine pure_ (i := 11) (N := some 73) (v := ?_) (a' := ?_) #[true, true, true, true, true, true, true, true, true, true, true, true] rfl rfl (by kernel_rfl) (fun _ _ _ h => h) (Or.inl ⟨by rfl, ?_⟩) ?_ ?_
              rotate_left
              · intro w'
                go_simp
                with_reducible rfl
              rotate_left
              · simp only [Act.put, List.setIfInBounds_toArray, List.set_cons_zero, List.set_cons_succ, i64_w, i32_w]
                rfl
              refine done_ (by kernel_rfl) ?_

              clear hcz0 hcz1
              have hcz0 : w9.cell? ⟨gw, 0, none⟩ = some (.int .i64 a) := (blk_cell HG9.out 0).trans rfl
              have hcz1 : w9.cell? ⟨gw, 1, none⟩ = some (.int .i64 z) := (blk_cell HG9.out 1).trans rfl
              go_wp2_with (fail)
              refine (gorilla_window_rest.calls _ _ (RW : Int) _ HRS.out).mono ?_
              rintro q w10 ⟨rfl, hb⟩
              have HI10 := Aside0.mk (HI9.out.below hb)
              have HB10 := Aside0.mk (below_step HB9.out hb)
              have HG10 := Aside0.mk (blk_below HG9.out hb)
              have HK10 := Aside0.mk (HK9.out.trans (Kept2.of_below hb))
              clear hb
              go_wp2_with (fail)
              refine (Get_beside g gw s2 (RW : Int) v8 e8 s8 _ w0 _ w HI10.out HB10.out HG10.out HK10.out HR8.out).mono ?_
              rintro q w8 ⟨rfl, hi, hb, hg, hk⟩
              have HI8 := Aside0.mk hi
              have HB8 := Aside0.mk hb
              have HG8 := Aside0.mk hg
              have HK8 := Aside0.mk hk
              clear hi hb hg hk
              clear hcz0 hcz1
              have hcz0 : w8.cell? ⟨gw, 0, none⟩ = some (.int .i64 a) := (blk_cell HG8.out 0).trans rfl
              have hcz1 : w8.cell? ⟨gw, 1, none⟩ = some (.int .i64 z) := (blk_cell HG8.out 1).trans rfl
              go_wp2
              go_ret2
              have hx := HX.out
              rw [HE.out, HE2.out, HE0.out] at hx
              injection hx with x1 x2
              injection x2 with x2 x3
              injection x3 with x3 x4
              subst x1 x2 x3
              rw [← x4]
              exact ⟨rfl, HI8.out, HB8.out, HG8.out, HK8.out⟩
      · have ce2 : (e2 == 0) = false := by rw [beq_eq_false_iff_ne]; exact he2
        have HE2 := Aside0.mk (HX2.out.trans (if_pos he2))
        clear he2
        go_wp2
        go_ret2
        have hx := HX.out
        rw [HE.out, HE2.out] at hx
        injection hx with x1 x2
        injection x2 with x2 x3
        injection x3 with x3 x4
        subst x1 x2 x3
        rw [← x4]
        exact ⟨rfl, HI2.out, HB2.out, HG2.out, HK2.out⟩
  · have ce1 : (e1 == 0) = false := by rw [beq_eq_false_iff_ne]; exact he1
    have HE := Aside0.mk (HX1.out.trans (if_pos (.inl he1)))
    clear he1
    go_wp2
    go_ret2
    have hx := HX.out
    rw [HE.out] at hx
    injection hx with x1 x2
    injection x2 with x2 x3
    injection x3 with x3 x4
    subst x1 x2 x3
    rw [← x4]
    exact ⟨rfl, HI1.out, HB1.out, HG1.out, HK1.out⟩
end Go.Proofs.YtfpnoceppjjafaaDoor.P
