/- The reference's reader: its state and get. -/
import Derived.Test.YtfpnoceppjjafaaDoorRefBit
import Derived.Test.YtfpnoceppjjafaaDoorGnext
import Derived.WalkMore
import Derived.Test.YtfpnoceppjjafaaDoorPx9
namespace Go.Proofs.YtfpnoceppjjafaaDoor.P
open Go.RowKit Go.Proofs.YtfpnoceppjjafaaDoor.Kit Go.Proofs.YtfpnoceppjjafaaDoor.Var Go.Proofs.YtfpnoceppjjafaaDoorW.PrintWords Go.Proofs.YtfpnoceppjjafaaDoorW.PrintLast Go.Proofs.YtfpnoceppjjafaaDoorW.PrintMore
set_option linter.unusedVariables false
set_option linter.unusedSimpArgs false
/-- The reader at block g: what is left, what was wrong; it lies beside the row 'ow'. -/
def RdS (w0 W : World) (g : Nat) (ow : Option Nat) (l : List Int) (b : Int) : Prop :=
  is01 l ∧ w0.heap.size ≤ g ∧ ∃ A c, W.heap[g]? = some (.cells #[.slice A l.length c, .int .i64 b] 63 (0, 0)) ∧ Kd.V (Kd.int .i64) 3 W 0 (fun k => k ≠ g ∧ some k ≠ ow) (.slice A l.length c) l
theorem RdS.below {w0 W w1 : World} {g : Nat} {ow : Option Nat} {l : List Int} {b : Int} (h : RdS w0 W g ow l b) (hb : Below W.heap.size W w1) : RdS w0 w1 g ow l b := by
  obtain ⟨h1, h2, A, c, h3, h4⟩ := h
  exact ⟨h1, h2, A, c, blk_below h3 hb, Kd.V_below h4 hb⟩
theorem RdS.lt {w0 W : World} {g : Nat} {ow : Option Nat} {l : List Int} {b : Int} (h : RdS w0 W g ow l b) : g < W.heap.size := by
  obtain ⟨h1, h2, A, c, h3, h4⟩ := h
  exact blk_lt h3
theorem RdS.drew {w0 W : World} {g : Nat} {ow : Option Nat} {l : List Int} {b : Int} (h : RdS w0 W g ow l b) : RdS w0 W.drew g ow l b := h.below (below_drew (Below.refl _ _))
theorem RdS.alloc {w0 W : World} {g : Nat} {ow : Option Nat} {l : List Int} {b : Int} (h : RdS w0 W g ow l b) (o : Obj) : RdS w0 (W.alloc o) g ow l b := h.below (below_alloc (Below.refl _ _) o)
theorem RdS.cell0 {w0 W : World} {g : Nat} {ow : Option Nat} {l : List Int} {b : Int} (h : RdS w0 W g ow l b) : W.cell? ⟨g, 1, none⟩ = some (.int .i64 b) := by
  obtain ⟨h1, h2, A, c, h3, h4⟩ := h
  exact (blk_cell h3 1).trans rfl
theorem RdS.froz {w0 W : World} {g : Nat} {ow : Option Nat} {l : List Int} {b : Int} (h : RdS w0 W g ow l b) : W.frozen? ⟨g, 1, none⟩ = false := by
  obtain ⟨h1, h2, A, c, h3, h4⟩ := h
  exact blk_frozen h3 1
theorem RdS.out_ne {w0 W : World} {g : Nat} {ow : Option Nat} {l : List Int} {b : Int} (h : RdS w0 W g ow l b) {base : Nat} {ok : Nat → Prop} {v : Value} {xs : List Int} (ho : Kd.R (Kd.int .u64) 35 W base ok v xs) : some g ≠ v.ownBlock := by
  obtain ⟨h1, h2, A, c, h3, h4⟩ := h
  exact Kd.R_ne ho h3 (by decide)
theorem RdS.after {w0 W w1 : World} {g : Nat} {l : List Int} {b : Int} {v v1 : Value} (h : RdS w0 W g v.ownBlock l b) (hne : some g ≠ v.ownBlock) (hg : W.grownBy w1 v.ownBlock) (hat : v1.ownBlock = v.ownBlock ∨ ∃ b, v1.ownBlock = some b ∧ W.heap.size ≤ b) : RdS w0 w1 g v1.ownBlock l b := by
  obtain ⟨h1, h2, A, c, h3, h4⟩ := h
  exact ⟨h1, h2, A, c, blk_grown h3 hg hne, Kd.V_after (u := v) (v1 := v1) (ok := fun k => k ≠ g) h4 hg hat⟩
theorem RdS.set {w0 W : World} {g : Nat} {ow : Option Nat} {l : List Int} {b : Int} (h : RdS w0 W g ow l b) (b' : Int) : RdS w0 (W.setCell ⟨g, 1, none⟩ (.int .i64 b')) g ow l b' := by
  obtain ⟨h1, h2, A, c, h3, h4⟩ := h
  exact ⟨h1, h2, A, c, blk_put (cs' := #[.slice A l.length c, .int .i64 b']) h3 1 _ rfl, Kd.V_far (p := ⟨g, 1, none⟩) h4 (fun k hk => hk.1) _⟩
/-- What other rows keep. -/
theorem RdS.R_keep {w0 W w1 : World} {g : Nat} {ow : Option Nat} {l : List Int} {b : Int} (h : RdS w0 W g ow l b) {base : Nat} {ok : Nat → Prop} {v : Value} {xs : List Int} (ho : Kd.R (Kd.int .u64) 35 W base ok v xs) (hk : KeepBut W w1 g none) : Kd.R (Kd.int .u64) 35 w1 base ok v xs := by
  obtain ⟨h1, h2, A, c, h3, h4⟩ := h
  refine Kd.R_mono (Kd.R_step (Kd.R_types ho h3 ?_) (fun k ho hlt => hk.2 k hlt ho.2 (by simp))) (fun _ h => h.1)
  intro q hq
  rcases List.mem_cons.1 hq with rfl | hq
  · decide
  · exact absurd hq (by rw [show (Kd.int .u64).E = [] from rfl]; exact List.not_mem_nil)
theorem keep_set (W : World) (g i : Nat) (u : Value) : KeepBut W (W.setCell ⟨g, i, none⟩ u) g none := ⟨by simp [World.setCell], fun j _ h4 _ => Below.heap_setCell W ⟨g, i, none⟩ u j h4⟩
theorem keep_trans {a b c : World} {g : Nat} (h1 : KeepBut a b g none) (h2 : KeepBut b c g none) : KeepBut a c g none := ⟨Nat.le_trans h1.1 h2.1, fun i hi h3 h4 => (h2.2 i (Nat.lt_of_lt_of_le hi h1.1) h3 h4).trans (h1.2 i hi h3 h4)⟩
theorem keep_below {w w' : World} {g : Nat} (hb : Below w.heap.size w w') : KeepBut w w' g none := ⟨hb.size, fun i hi _ _ => hb.block i hi⟩
theorem rGet2_of {l : List Int} {w v e : Int} {l' : List Int} (h : rGet l w = (v, e, l')) : rGet2 l w = (v, l', e) := by
  unfold rGet at h
  unfold rGet2
  split at h
  · next c => rw [if_pos c]; injection h with h1 h2; injection h2 with h2 h3; rw [h1, h2, h3]
  · next c =>
    rw [if_neg c]
    split at h
    · next c => rw [if_pos c]; injection h with h1 h2; injection h2 with h2 h3; rw [h1, h2, h3]
    · next c => rw [if_neg c]; injection h with h1 h2; injection h2 with h2 h3; rw [h1, h2, h3]
set_option maxHeartbeats 4000000 in
set_option maxRecDepth 100000 in
theorem reader_get.calls (g : Nat) (l : List Int) (b : Int) (ow : Option Nat) (wd : Nat) (hwd : wd ≤ 64) (v e : Int) (l' : List Int) (w0 w : World) (hI : RdS w0 w g ow l b) (hB : Below w0.heap.size w0 w) (ho : ∀ k, ow = some k → k < w.heap.size) (h : rGet l (wd : Int) = (v, e, l')) :
    Calls Tryd.prog 32 #[.pointer (some ⟨g, 0, none⟩), .int .i64 (wd : Int)] w fun x w' => x = .returned (.int .u64 v) ∧ RdS w0 w' g ow l' (if e ≠ 0 ∧ b = 0 then e else b) ∧ Below w0.heap.size w0 w' ∧ KeepBut w w' g none := by
  obtain ⟨h1, h2, A, c, h3, h4⟩ := hI
  obtain ⟨v', e', s', hr, h01, _⟩ := rGet_facts h1 wd hwd
  rw [h] at hr
  injection hr with q1 hr
  injection hr with q2 q3
  subst q1 q2 q3
  obtain ⟨kg, hkg⟩ := (rGet_ev l (wd : Int) h1).eq (rGet2_of h) |>.get
  obtain ⟨B, hBB⟩ : ∃ B : Int, (if e ≠ 0 ∧ b = 0 then e else b) = B := ⟨_, rfl⟩
  rw [hBB]
  have HBB := Aside0.mk hBB
  clear hBB
  have HKG := Aside0.mk hkg
  have H01 := Aside0.mk h01
  have HB := Aside0.mk hB
  have HG := Aside0.mk h3
  have HV := Aside0.mk h4
  have HO := Aside0.mk ho
  have HE := Aside0.mk h2
  have hcz0 : w.cell? ⟨g, 0, none⟩ = some (.slice A l.length c) := (blk_cell h3 0).trans rfl
  have hcz1 : w.cell? ⟨g, 1, none⟩ = some (.int .i64 b) := (blk_cell h3 1).trans rfl
  clear hkg h01 hB h3 h4 ho h2 h1 h
  go_enter Tryd.func32, Tryd.ntmps32
  go_wp2_with (fail)
  refine (casketref01_Get.calls kg (fun k => k ≠ g ∧ some k ≠ ow) A c l (wd : Int) v l' e w (Kd.V_map HV.out (fun _ h => h)) HKG.out).mono ?_
  rintro q w5 ⟨v5, rfl, hv5, hb5⟩
  obtain ⟨A5, c5, e5⟩ := Kd.V_slice hv5
  subst e5
  have HV5 := Aside0.mk (Kd.V_mono (Kd.V_bound hv5) (ok' := fun k => k ≠ g ∧ some k ≠ ow) (fun k hk => hk.1.elim id (fun hs => ⟨by have := blk_lt HG.out; omega, fun h => by have := HO.out k h.symm; omega⟩)))
  have HG5 := Aside0.mk (blk_below HG.out hb5)
  have HB5 := Aside0.mk (below_step HB.out hb5)
  have HK5 := Aside0.mk (keep_below (g := g) hb5)
  clear hv5 hb5 hcz0 hcz1
  have hcz0 : w5.cell? ⟨g, 0, none⟩ = some (.slice A l.length c) := (blk_cell HG5.out 0).trans rfl
  have hcz1 : w5.cell? ⟨g, 1, none⟩ = some (.int .i64 b) := (blk_cell HG5.out 1).trans rfl
  have hfz0 := blk_frozen HG5.out 0
  have hfz1 := blk_frozen HG5.out 1
  have quiet : RdS w0 (w5.setCell ⟨g, 0, none⟩ (.slice A5 l'.length c5)) g ow l' b ∧ Below w0.heap.size w0 (w5.setCell ⟨g, 0, none⟩ (.slice A5 l'.length c5)) ∧ KeepBut w (w5.setCell ⟨g, 0, none⟩ (.slice A5 l'.length c5)) g none := by
    exact ⟨⟨H01.out, HE.out, A5, c5, blk_put (cs' := #[.slice A5 l'.length c5, .int .i64 b]) HG5.out 0 _ rfl, Kd.V_far (p := ⟨g, 0, none⟩) (Kd.V_map HV5.out (fun _ h => h)) (fun k hk => hk.1) _⟩, below_set HB5.out HE.out, keep_trans HK5.out (keep_set _ _ _ _)⟩
  have HQ := Aside0.mk quiet
  clear quiet
  by_cases he : e = 0
  · subst he
    go_wp2
    go_ret
    exact ⟨rfl, by rw [← HBB.out, if_neg (fun h => h.1 rfl)]; exact HQ.out.1, HQ.out.2.1, HQ.out.2.2⟩
  · have ce : (e == 0) = false := by rw [beq_eq_false_iff_ne]; exact he
    have HE0 := Aside0.mk he
    have ce2 : (e != 0) = true := by rw [bne, ce]; rfl
    by_cases hb : b = 0
    · subst hb
      have HQ3 := Aside0.mk (rfl : (0 : Int) = 0)
      have HQ2 := Aside0.mk (show RdS w0 ((w5.setCell ⟨g, 1, none⟩ (.int .i64 e)).setCell ⟨g, 0, none⟩ (.slice A5 l'.length c5)) g ow l' e ∧ Below w0.heap.size w0 ((w5.setCell ⟨g, 1, none⟩ (.int .i64 e)).setCell ⟨g, 0, none⟩ (.slice A5 l'.length c5)) ∧ KeepBut w ((w5.setCell ⟨g, 1, none⟩ (.int .i64 e)).setCell ⟨g, 0, none⟩ (.slice A5 l'.length c5)) g none from
        ⟨⟨H01.out, HE.out, A5, c5, blk_put (cs := #[.slice A l.length c, .int .i64 e]) (cs' := #[.slice A5 l'.length c5, .int .i64 e]) (blk_put (cs' := #[.slice A l.length c, .int .i64 e]) HG5.out 1 _ rfl) 0 _ rfl, Kd.V_far (p := ⟨g, 0, none⟩) (Kd.V_far (p := ⟨g, 1, none⟩) (Kd.V_map HV5.out (fun _ h => h)) (fun k hk => hk.1) _) (fun k hk => hk.1) _⟩, below_set (below_set HB5.out HE.out) HE.out, keep_trans (keep_trans HK5.out (keep_set _ _ _ _)) (keep_set _ _ _ _)⟩)
      go_wp2
      go_ret
      exact ⟨rfl, by rw [← HBB.out, if_pos ⟨HE0.out, HQ3.out⟩]; exact HQ2.out.1, HQ2.out.2.1, HQ2.out.2.2⟩
    · have cb : (b == 0) = false := by rw [beq_eq_false_iff_ne]; exact hb
      have HB0 := Aside0.mk hb
      clear hb
      go_wp2
      go_ret
      exact ⟨rfl, by rw [← HBB.out, if_neg (fun h => HB0.out h.2)]; exact HQ.out.1, HQ.out.2.1, HQ.out.2.2⟩
end Go.Proofs.YtfpnoceppjjafaaDoor.P
