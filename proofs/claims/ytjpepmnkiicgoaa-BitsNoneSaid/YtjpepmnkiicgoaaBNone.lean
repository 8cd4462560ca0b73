/- The law BitsNone: the walk by hand. -/
import Derived.Test.YtjpepmnkiicgoaaPx3
import Derived.Test.YtjpepmnkiicgoaaBitL
import Derived.Test.YtjpepmnkiicgoaaOwn
import Derived.OneCell
import Derived.RegionTactic
import Derived.BigRegion
import Derived.Outline
import Derived.Deep.QuietTactic
import Derived.BigQuiet
namespace Go.Proofs.Ytjpepmnkiicgoaa.P
open Go.RowKit Go.Proofs.Ytjpepmnkiicgoaa.Kit Go.Proofs.Ytjpepmnkiicgoaa.Var Go.Proofs.YtjpepmnkiicgoaaW.PrintWords Go.Proofs.YtjpepmnkiicgoaaW.PrintLast Go.Proofs.YtjpepmnkiicgoaaW.PrintMore
set_option linter.unusedVariables false
set_option linter.unusedSimpArgs false

/-- Nothing plain is left to show. -/
def casketlaw01_BitsNone.Pure : Prop := True
set_option maxHeartbeats 1000000 in
theorem casketlaw01_BitsNone.walk (P : casketlaw01_BitsNone.Pure) (a0 a1 : Int) (w : World) (h0 : (Lit.int .u64 a0).wf = true) (h1 : (Lit.int .i64 a1).wf = true) :
    Calls Try.prog 6 #[.int .u64 a0, .int .i64 a1] w fun e w' => e = .returned (.bool true) ∧ Below w.heap.size w w' := by
  have HA := Aside0.mk (casketlaw01_awake.calls true w BitL.awake_f)
  have E1 := Aside0.mk (show bitsOf 2 3 = [1, 1] by decide +kernel)
  have E2 := Aside0.mk (show bitsOf 1 1 = [1] by decide +kernel)
  have E3 := Aside0.mk (show pack [1, 1] = [192] by decide +kernel)
  have E4 := Aside0.mk (show pack [1, 1, 1] = [224] by decide +kernel)
  clear h0 h1
  go_enter Try.func6, Try.ntmps6
  go_wp2_with (fail)
  refine HA.out.mono ?_
  rintro e wa ⟨rfl, hb⟩
  have HB := Aside0.mk hb
  clear hb HA
  go_wp2_with (fail)
  refine (Get_nil _ _).mono ?_
  rintro e w2 ⟨rfl, rfl⟩
  have HX := Aside0.mk (OwnW.made (w0 := w) wa.heap.size (MapKept.heap_alloc wa (.cells #[.slice none 0 0, .int .i64 0] 27)).1 HB.out.size)
  go_wp2_with (fail)
  refine (own_put w _ _ [] _ 3 2 HX.out (below_alloc HB.out _) (by decide) (by decide) (by decide) (by decide +kernel) (by decide)).mono ?_
  rintro e w3 ⟨rfl, ⟨F3, hO3, hF3⟩, hb3, hk3⟩
  rw [List.nil_append, E1.out] at hO3
  have HO3 := Aside0.mk hO3
  have HB3 := Aside0.mk hb3
  clear hO3 hF3 hb3 hk3 HX HB
  go_wp2_with (fail)
  refine (own_bytes w _ _ [1, 1] _ HO3.out (by decide)).mono ?_
  rintro e w4 ⟨v4, rfl, ho, hb⟩
  rw [E3.out] at ho
  have HO4 := Aside0.mk (HO3.out.below hb)
  have HB4 := Aside0.mk (below_step HB3.out hb)
  have HF4 := Aside0.mk HO3.out.lt
  have HSZ := Aside0.mk hb.size
  have HB3s := Aside0.mk HB3.out.size
  clear HO3 HB3
  obtain ⟨q, c4, e4, hq1, hq2, cs4, hq3⟩ := Kd.R_form ho (by decide)
  subst e4
  obtain ⟨x4, f4⟩ := Kd.R_celln 0 ho 0 (by decide) (by decide)
  have HQ := Aside0.mk (show w3.heap.size ≤ q ∧ q < w4.heap.size from ⟨hq1, hq2⟩)
  have HX4 := Aside0.mk (show w4.cell? ⟨q, 0, none⟩ = some (.int .u8 192) from x4)
  have HG4 := Aside0.mk f4
  clear hb ho hq1 hq2 cs4 hq3 x4 f4
  go_wp2_with (fail)
  refine (own_put w _ _ [1, 1] _ 1 1 HO4.out HB4.out (by decide) (by decide) (by decide) (by decide +kernel) (by decide)).mono ?_
  rintro e w5 ⟨rfl, ⟨F5, hO5, hF5⟩, hb5, hk5⟩
  rw [E2.out] at hO5
  have hq5 : w5.heap[q]? = w4.heap[q]? := hk5.2 q HQ.out.2 (fun hF => by have := HF4.out q hF; have := HQ.out.1; omega)
  have x5 : w5.cell? ⟨q, 0, none⟩ = some (.int .u8 192) := (World.cell?_of_block (w := w4) (w' := w5) hq5).trans HX4.out
  have f5 : w5.frozen? ⟨q, 0, none⟩ = false := by
    have := HG4.out
    unfold World.frozen? at this ⊢
    rw [show w5.heap[(⟨q, 0, none⟩ : Addr).block]? = w4.heap[q]? from hq5]
    exact this
  have HN5 := Aside0.mk (show ¬ F5 q from fun hF => by
    rcases hF5 q hF with h | h
    · have := HF4.out q h; have := HQ.out.1; omega
    · have := HQ.out.2; omega)
  have HO5 := Aside0.mk hO5
  have HB5 := Aside0.mk hb5
  have HQW := Aside0.mk (show w.heap.size ≤ q from Nat.le_trans HB3s.out HQ.out.1)
  clear hO5 hF5 hb5 hk5 hq5 HX4 HG4 HF4 HB4 HO4
  go_wp2_with (fail)
  have HO6 := Aside0.mk (show OwnW w (w5.setCell ⟨q, 0, none⟩ (.int .u8 0)) _ _ _ from HO5.out.step (by simp [World.setCell]) (fun j hj hF => Below.heap_setCell w5 ⟨q, 0, none⟩ _ j (by rintro rfl; exact HN5.out hF)))
  refine (own_bytes w _ _ [1, 1, 1] _ HO6.out (by decide)).mono ?_
  rintro e w7 ⟨v7, rfl, ho, hb⟩
  rw [E4.out] at ho
  have HB7 := Aside0.mk (below_step (below_set HB5.out HQW.out) hb)
  obtain ⟨q7, c7, e7, hq1, hq2, cs7, hq3⟩ := Kd.R_form ho (by decide)
  subst e7
  obtain ⟨x7, f7⟩ := Kd.R_celln 0 ho 0 (by decide) (by decide)
  replace x7 : w7.cell? ⟨q7, 0, none⟩ = some (.int .u8 224) := x7
  clear hb ho hq1 hq2 cs7 hq3 f7 x5 f5
  go_wp2_with (first
    | (go_at_call 11; refine (Put_nil _ _ _).mono ?_; rintro e w8 ⟨rfl, rfl⟩)
    | (go_at_call 14; refine (Len_nil _).mono ?_; rintro e w8 ⟨rfl, rfl⟩)
    | (go_at_call 16; refine (Bytes_nil _).mono ?_; rintro e w8 ⟨rfl, rfl⟩)
    | (go_at_call 20; refine (Left_nil _).mono ?_; rintro e w8 ⟨rfl, rfl⟩)
    | (go_at_call 21; refine (End_nil _).mono ?_; rintro e w8 ⟨rfl, rfl⟩))
  go_ret
  exact ⟨rfl, HB7.out⟩
end Go.Proofs.Ytjpepmnkiicgoaa.P
