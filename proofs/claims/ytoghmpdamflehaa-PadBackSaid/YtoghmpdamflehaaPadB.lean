/- pad.Size and pad.Bucket as pure functions, and their contracts. -/
import Derived.RangeFuncNested
import Derived.RangeFuncBound
import Derived.RangeFuncCalls
import Derived.RangeFuncLeaves
import Derived.RangeFuncFrom
import Derived.Shelf.Abstract
import Derived.Shelf.RegionOpen
import Derived.WalkKit
import Derived.OwnWalkIn
import Derived.TacticsInMore
import Derived.LoopNIn
import Derived.LoopIn
import Derived.Test.YtoghmpdamflehaaProg
import Derived.Test.YtoghmpdamflehaaKit
namespace Go.Proofs.Ytoghmpdamflehaa.P
open Go.RowKit Go.Shelf Go.Proofs.Ytoghmpdamflehaa.Kit Go.Proofs.YtoghmpdamflehaaW.PrintWords Go.Proofs.YtoghmpdamflehaaW.PrintLast Go.Proofs.YtoghmpdamflehaaW.PrintMore
attribute [local go_sem] Oper.semAt_some
set_option linter.unusedVariables false
set_option linter.unusedSimpArgs false

theorem cell_new_l (w : World) (v : Value) (t : TypeId) : (w.alloc (.cells #[v] t)).cell? ⟨w.heap.size, 0, none⟩ = some v ∧ (w.alloc (.cells #[v] t)).frozen? ⟨w.heap.size, 0, none⟩ = false := by simp
theorem cell_alloc_l {w : World} (o : Obj) {p : Addr} {v : Value} (h : w.cell? p = some v) : (w.alloc o).cell? p = some v := pw_cell_below (below_alloc (Below.refl _ _) o) h
def sz (k : Nat) : Int := 64 * 4 ^ k
def pairs (j : Nat) : List (Int × Int) := (List.range j).map fun k : Nat => ((k : Int), sz k)
theorem pairs_succ (j : Nat) : pairs (j + 1) = pairs j ++ [((j : Int), sz j)] := by
  unfold pairs
  rw [List.range_succ, List.map_append]
  rfl
theorem pairs_length (j : Nat) : (pairs j).length = j := by simp [pairs]
abbrev encP (p : Int × Int) : Array Value := #[.int .i64 p.1, .int .i64 p.2]
theorem sz_facts (k : Nat) (h : k < 9) : decide (sz k ≤ 4194304) = true ∧ wrap64 (sz k * 4) = sz (k + 1) ∧ wrap64 ((k : Int) + 1) = ((k + 1 : Nat) : Int) := by
  have key : ∀ k : Fin 9, decide (sz (k : Nat) ≤ 4194304) = true ∧ wrap64 (sz (k : Nat) * 4) = sz ((k : Nat) + 1) ∧ wrap64 (((k : Nat) : Int) + 1) = (((k : Nat) + 1 : Nat) : Int) := by decide +kernel
  exact key ⟨k, h⟩
def intOf : Value → Int | .int _ q => q | _ => 0
set_option maxRecDepth 100000 in
set_option maxHeartbeats 2000000 in
/-- The buckets and their sizes, one by one; it stops where a round says 'no more'. -/
theorem sizes_in (F : Fence) (n : Nat) (h29 : F.fn 29) (hro : F.round = none) (hn : 1 ≤ n) (l n₀ : Nat) (J Jx : List (Int × Int) → World → Prop)
    (hY : ∀ pre x W, J pre W → pre.length < 9 → YieldAt F (n - 1) Try.prog l (encP x) W fun e W' =>
      (e = .returned (.bool true) ∧ J (pre ++ [x]) W' ∧ Below n₀ W W') ∨ (e = .returned (.bool false) ∧ Jx (pre ++ [x]) W'))
    (W : World) (h0 : J [] W) :
    CallsIn F n Try.prog 29 #[.func (.yield l) #[] #[]] W fun e W' => (∃ v, e = .returned v) ∧
      ((∃ ys, ys = pairs 9 ∧ J ys W') ∨ (∃ pre, (∃ j, j ≤ 9 ∧ pre = pairs j) ∧ Jx pre W')) := by
  refine callsIn_of_wp Try.func29 rfl h29 ?_ hro
  simp only [Try.ntmps29, List.size_toArray, List.length_cons, List.length_nil, Nat.reduceAdd, Nat.reduceSub, Array.replicate_succ, Array.replicate_zero, List.push_toArray, List.append_toArray, List.nil_append, List.cons_append]
  gi_wp2
  gi_loopw [2, 3] (fun p q wr => ∃ k : Nat, k ≤ 9 ∧ p = .int .i64 (k : Int) ∧ q = .int .i64 (sz k) ∧ J (pairs k) wr) (fun p q wr => 9 - (intOf p).toNat)
  case atStart => exact ⟨0, by decide, rfl, rfl, h0⟩
  case round =>
    obtain ⟨k, hk, rfl, rfl, hJs⟩ := hrel
    by_cases h9 : k < 9
    · obtain ⟨c1, c2, c3⟩ := sz_facts k h9
      have c1' : sz k ≤ 4194304 := of_decide_eq_true c1
      obtain ⟨fn, tmps, assign, body, hy, hR⟩ := hY (pairs k) ((k : Int), sz k) wr hJs (by rw [pairs_length]; exact h9)
      dsimp only [encP] at hy
      gi_wp2
      refine hR.mono ?_
      rintro e W3 (⟨rfl, hJ3, hk3⟩ | ⟨rfl, hJx3⟩)
      · gi_wp2
        go_roundw
        case rel => exact ⟨k + 1, h9, rfl, by rw [c2], by rw [pairs_succ]; exact hJ3⟩
        case measure => exact (by clear c2 c3; show 9 - ((k : Int) + 1).toNat < 9 - ((k : Int)).toNat; omega)
      · gi_wp2
        refine bodyPost_ret (results_none rfl _ _ _) rfl ?_
        exact ⟨⟨_, rfl⟩, .inr ⟨pairs (k + 1), ⟨k + 1, h9, rfl⟩, by rw [pairs_succ]; exact hJx3⟩⟩
    · obtain rfl : k = 9 := by omega
      have c1 : decide (sz 9 ≤ 4194304) = false := by decide +kernel
      have c1' : ¬ sz 9 ≤ 4194304 := of_decide_eq_false c1
      gi_wp2
      go_end0
      exact ⟨⟨_, rfl⟩, .inl hJs⟩
theorem sizes_stops (F : Fence) (n : Nat) (h29 : F.fn 29) (hro : F.round = none) (hn : 1 ≤ n) (n₀ : Nat) (w : World) :
    SeqStopsK F n Try.prog 29 #[] encP (Below n₀) (fun ys => ys = pairs 9) (fun pre => ∃ j, j ≤ 9 ∧ pre = pairs j) 9 w := fun l J Jx W hW _ _ hY h0 =>
  sizes_in F n h29 hro hn l n₀ J Jx hY W h0
/-- What the rounds have found of bucket k. -/
def outOf (k : Int) (pre : List (Int × Int)) : Int := pre.foldl (fun o p => if p.1 = k then p.2 else o) 0
theorem outOf_snoc (k : Int) (pre : List (Int × Int)) (x : Int × Int) : outOf k (pre ++ [x]) = if x.1 = k then x.2 else outOf k pre := by simp [outOf]
theorem sizes_call (F : Fence) (n : Nat) (h19 : F.fn 19) (hro : F.round = none) (w : World) : CallsIn F n Try.prog 19 #[] w fun e w' => e = .returned (.func (.func 29) #[] #[]) ∧ w' = w := by
  refine callsIn_of_wp Try.func19 rfl h19 ?_ hro
  simp only [Try.ntmps19, List.size_toArray, List.length_cons, List.length_nil, Nat.reduceAdd, Nat.reduceSub, Array.replicate_succ, Array.replicate_zero, List.push_toArray, List.append_toArray, List.nil_append, List.cons_append]
  gi_wp2
  go_ret
  exact ⟨rfl, rfl⟩
set_option maxRecDepth 100000 in
set_option maxHeartbeats 2000000 in
theorem Size_in (F : Fence) (n : Nat) (h12 : F.fn 12) (h19 : F.fn 19) (h29 : F.fn 29) (hro : F.round = none) (hn : 3 ≤ n) (k : Int) (w : World) :
    CallsIn F n Try.prog 12 #[.int .i64 k] w fun e W' => e = .returned (.int .i64 (outOf k (pairs 9))) ∧ Below w.heap.size w W' := by
  have h1 : 1 ≤ n := by omega
  refine callsIn_of_wp_marks Try.func12 rfl h12 ?_ hro
  simp only [Try.ntmps12, List.size_toArray, List.length_cons, List.length_nil, Nat.reduceAdd, Nat.reduceSub, Array.replicate_succ, Array.replicate_zero, List.push_toArray, List.append_toArray, List.nil_append, List.cons_append]
  gi_wp2_with (gi_at_call 19; refine (sizes_call F (n - 1) h19 hro _).mono ?_; rintro e w' ⟨rfl, rfl⟩)
  have hs := cell_new_l w (.int .i64 k) 3
  have hb := cell_new_l (w.alloc (.cells #[.int .i64 k] 3)) (.int .i64 0) 3
  rw [World.size_alloc] at hb
  have hB0 : Below w.heap.size w ((w.alloc (.cells #[.int .i64 k] 3)).alloc (.cells #[.int .i64 0] 3)) := ((Below.refl _ w).alloc (Nat.le_refl _) _).alloc (by simp) _
  refine wpIn_rangeFunc_ownF hro h1 (gf := 29) (lb := #[]) rfl h29 (enters_of Try.func29 (by kernel_rfl) rfl)
    (sizes_stops F (n - 1) h29 hro (by omega) w.heap.size _) belowK_t (belowK_b (by simp; omega)) (Below.refl _ _) (fun _ => rfl)
    (fun pre W => (W.cell? ⟨w.heap.size, 0, none⟩ = some (.int .i64 k) ∧ W.cell? ⟨w.heap.size + 1, 0, none⟩ = some (.int .i64 (outOf k pre)) ∧ W.frozen? ⟨w.heap.size + 1, 0, none⟩ = false) ∧ Below w.heap.size w W)
    (fun _ _ _ => False)
    (OwnFrom.and (Own.from (fun s A B row hs hg hr => ⟨cell_kept hs.1 hg hr, cell_kept hs.2.1 hg hr, (frozen_kept hs.2.1 hg hr).trans hs.2.2⟩) _) (ownFrom_below (Nat.le_refl _) (by simp; omega)))
    (fun _ _ _ _ _ hs _ _ => hs)
    ⟨⟨cell_alloc_l _ hs.1, hb.1, hb.2⟩, hB0⟩
    (fun x => { tmps := #[.int .i64 k, .pointer (some ⟨w.heap.size, 0, none⟩), .int .i64 0, .pointer (some ⟨w.heap.size + 1, 0, none⟩), .int .i64 x.1, .int .i64 x.2, .func (.func 29) #[] #[], .int .i64 x.1, .int .i64 x.2, undef, undef, undef, undef, undef], defers := [] }) ?assign ?body ?done ?stop
  case assign =>
    intro l x W K hK
    gi_wp2
    exact hK
  case body =>
    rintro l pre x W ⟨⟨hc0, hc, hf⟩, hB⟩ _
    gi_wp2
    · rename_i hx
      have hx' : x.1 = k := eq_of_beq hx
      exact ⟨KeepsOthers.setCell _ _ _, (Below.refl w.heap.size W).setCell (p := ⟨w.heap.size + 1, 0, none⟩) (by simp) _, ⟨(World.cell?_setCell_other _ _ _ _ (by intro e; injection e with e1; omega)).trans hc0, by rw [outOf_snoc, if_pos hx']; exact World.cell?_setCell_same' _ _ _ (by rw [hc]; rfl), by rw [World.frozen?_setCell]; exact hf⟩, hB.setCell (p := ⟨w.heap.size + 1, 0, none⟩) (by simp) _⟩
    · rename_i hx
      have hx' : ¬ x.1 = k := fun e => by simp [e] at hx
      exact ⟨KeepsOthers.refl _, Below.refl _ _, ⟨hc0, by rw [outOf_snoc, if_neg hx']; exact hc, hf⟩, hB⟩
  case done =>
    rintro D ys W hD rfl ⟨⟨_, hc, _⟩, hB⟩ hK
    gi_wp2
    refine ⟨by simp, .inl ⟨_, _, rfl, run_takeDeferred hK, ?_⟩⟩
    exact ⟨_, results_tmp rfl _ _ _, rfl, hB.trans (belowK_b (w := w) (Nat.le_refl _) W D _ _ (by simp at hD; omega) hK rfl rfl)⟩
  case stop =>
    rintro D c pre W _ _ h _
    exact h.elim
/-- The first bucket that has room. -/
def bk (n : Int) (ps : List (Int × Int)) : Option (Int × Int) := ps.find? fun p => decide (n ≤ wrap64 (p.2 - 4))
theorem bk_hit {n : Int} {pre : List (Int × Int)} {x : Int × Int} (h : bk n pre = none) (hx : n ≤ wrap64 (x.2 - 4)) : bk n (pre ++ [x]) = some x := by
  unfold bk at *
  rw [List.find?_append, h]
  simp [hx]
theorem bk_miss {n : Int} {pre : List (Int × Int)} {x : Int × Int} (h : bk n pre = none) (hx : ¬ n ≤ wrap64 (x.2 - 4)) : bk n (pre ++ [x]) = none := by
  unfold bk at *
  rw [List.find?_append, h]
  simp
  omega
theorem pairs_add (j m : Nat) : ∃ r, pairs (j + m) = pairs j ++ r := ⟨_, by unfold pairs; rw [List.range_add, List.map_append]⟩
theorem bk_pre {n : Int} {j : Nat} {p : Int × Int} (hj : j ≤ 9) (h : bk n (pairs j) = some p) : bk n (pairs 9) = some p := by
  obtain ⟨r, hr⟩ := pairs_add j (9 - j)
  rw [show j + (9 - j) = 9 by omega] at hr
  unfold bk at *
  rw [hr, List.find?_append, h]
  rfl
def bucketP (n : Int) : Int × Int := if n < 0 then (0, 1) else match bk n (pairs 9) with | none => (0, 4) | some p => (p.1, 0)
set_option maxRecDepth 100000 in
set_option maxHeartbeats 2000000 in
theorem Bucket_in (F : Fence) (n : Nat) (h10 : F.fn 10) (h19 : F.fn 19) (h29 : F.fn 29) (hro : F.round = none) (hn : 3 ≤ n) (k : Int) (hk : ¬ k < 0) (w : World) :
    CallsIn F n Try.prog 10 #[.int .i64 k] w fun e W' => e = .returned (.tuple #[.int .i64 (bucketP k).1, .int .i64 (bucketP k).2]) ∧ Below w.heap.size w W' := by
  have h1 : 1 ≤ n := by omega
  have ck : decide (k < 0) = false := decide_eq_false hk
  have hbp : bucketP k = match bk k (pairs 9) with | none => (0, 4) | some p => (p.1, 0) := if_neg hk
  refine callsIn_of_wp_marks Try.func10 rfl h10 ?_ hro
  simp only [Try.ntmps10, List.size_toArray, List.length_cons, List.length_nil, Nat.reduceAdd, Nat.reduceSub, Array.replicate_succ, Array.replicate_zero, List.push_toArray, List.append_toArray, List.nil_append, List.cons_append]
  gi_wp2_with (gi_at_call 19; refine (sizes_call F (n - 1) h19 hro _).mono ?_; rintro e w' ⟨rfl, rfl⟩)
  have hs := cell_new_l w (.int .i64 k) 3
  have hb := cell_new_l (w.alloc (.cells #[.int .i64 k] 3)) (.int .i64 (-1)) 3
  rw [World.size_alloc] at hb
  have hB0 : Below w.heap.size w ((w.alloc (.cells #[.int .i64 k] 3)).alloc (.cells #[.int .i64 (-1)] 3)) := ((Below.refl _ w).alloc (Nat.le_refl _) _).alloc (by simp) _
  refine wpIn_rangeFunc_ownF hro h1 (gf := 29) (lb := #[]) rfl h29 (enters_of Try.func29 (by kernel_rfl) rfl)
    (sizes_stops F (n - 1) h29 hro (by omega) w.heap.size _) belowK_t (belowK_b (by simp; omega)) (Below.refl _ _) (fun _ => rfl)
    (fun pre W => (bk k pre = none ∧ W.cell? ⟨w.heap.size, 0, none⟩ = some (.int .i64 k) ∧ W.cell? ⟨w.heap.size + 1, 0, none⟩ = some (.int .i64 (-1)) ∧ W.frozen? ⟨w.heap.size + 1, 0, none⟩ = false) ∧ Below w.heap.size w W)
    (fun c pre W => (c = .exit 0 ∧ ∃ p, bk k pre = some p ∧ W.cell? ⟨w.heap.size + 1, 0, none⟩ = some (.int .i64 p.1)) ∧ Below w.heap.size w W)
    (OwnFrom.and (Own.from (fun s A B row hs hg hr => ⟨hs.1, cell_kept hs.2.1 hg hr, cell_kept hs.2.2.1 hg hr, (frozen_kept hs.2.2.1 hg hr).trans hs.2.2.2⟩) _) (ownFrom_below (Nat.le_refl _) (by simp; omega)))
    (fun c => OwnFrom.and (Own.from (fun s A B row hs hg hr => by obtain ⟨hc, p, hp, hcell⟩ := hs; exact ⟨hc, p, hp, cell_kept hcell hg hr⟩) _) (ownFrom_below (Nat.le_refl _) (by simp; omega)))
    ⟨⟨rfl, cell_alloc_l _ hs.1, hb.1, hb.2⟩, hB0⟩
    (fun x => { tmps := #[.int .i64 k, .pointer (some ⟨w.heap.size, 0, none⟩), .int .i64 0, .int .i64 0, .pointer (some ⟨w.heap.size + 1, 0, none⟩), .int .i64 x.1, .int .i64 x.2, .int .i64 k, .bool false, .func (.func 29) #[] #[], .int .i64 x.1, .int .i64 x.2, undef, undef, undef, undef, undef, undef, undef, undef], defers := [] }) ?assign ?body ?done ?stop
  case assign =>
    intro l x W K hK
    gi_wp2
    exact hK
  case body =>
    rintro l pre x W ⟨⟨hp, hc0, hc, hf⟩, hB⟩ _
    gi_wp2
    · rename_i hx
      exact ⟨KeepsOthers.setCell _ _ _, ⟨rfl, x, bk_hit hp (by first | exact hx | exact of_decide_eq_true hx | omega), World.cell?_setCell_same' _ _ _ (by rw [hc]; rfl)⟩, hB.setCell (p := ⟨w.heap.size + 1, 0, none⟩) (by simp) _⟩
    · rename_i hx
      exact ⟨KeepsOthers.refl _, Below.refl _ _, ⟨bk_miss hp (by first | exact hx | exact of_decide_eq_false hx | omega), hc0, hc, hf⟩, hB⟩
  case done =>
    rintro D ys W hD rfl ⟨⟨hp, _, hc, _⟩, hB⟩ hK
    gi_wp2
    refine ⟨by simp, .inl ⟨_, _, rfl, run_takeDeferred hK, ?_⟩⟩
    refine ⟨_, results_tmp2 rfl _ _ _, ?_, hB.trans (belowK_b (w := w) (Nat.le_refl _) W D _ _ (by simp at hD; omega) hK rfl rfl)⟩
    rw [hbp, hp]
    rfl
  case stop =>
    rintro D c pre W hD ⟨j, hj, rfl⟩ ⟨⟨rfl, p, hp, hc⟩, hB⟩ hK
    have hp9 := bk_pre hj hp
    have hpos : decide (p.1 < 0) = false := by
      have hm := List.mem_of_find?_eq_some hp9
      simp only [pairs, List.mem_map] at hm
      obtain ⟨i, _, rfl⟩ := hm
      exact decide_eq_false (by simp)
    gi_wp2

    refine ⟨by simp, .inl ⟨_, _, rfl, run_takeDeferred hK, ?_⟩⟩
    refine ⟨_, results_tmp2 rfl _ _ _, ?_, hB.trans (belowK_b (w := w) (Nat.le_refl _) W D _ _ (by simp at hD; omega) hK rfl rfl)⟩
    rw [hbp, hp9]
    rfl
def sizeP (k : Int) : Int := outOf k (pairs 9)
def pad_Size.f (k : Int) : Option Int := some (sizeP k)
def pad_Bucket.f (n : Int) : Option (Int × Int) := some (bucketP n)
theorem pad_Size.calls (a0 : Int) (r : Int) (w : World) (h : pad_Size.f a0 = some r) : Calls Try.prog 12 #[.int .i64 a0] w fun e w' => e = .returned (.int .i64 r) ∧ Below w.heap.size w w' := by
  obtain rfl := Option.some.inj h
  exact (callsIn_wide (n := 3)).1 (Size_in Fence.wide 3 trivial trivial trivial rfl (Nat.le_refl _) a0 w)
theorem pad_Bucket.calls (a0 : Int) (r1 r2 : Int) (w : World) (h : pad_Bucket.f a0 = some (r1, r2)) : Calls Try.prog 10 #[.int .i64 a0] w fun e w' => e = .returned (.tuple #[.int .i64 r1, .int .i64 r2]) ∧ Below w.heap.size w w' := by
  have h := Option.some.inj h
  by_cases c : a0 < 0
  · unfold bucketP at h
    rw [if_pos c] at h
    injection h with h1 h2
    subst h1 h2
    have ck : decide (a0 < 0) = true := decide_eq_true c
    go_enter Try.func10, Try.ntmps10
    go_wp2
    go_ret2
    exact ⟨rfl, below_alloc (Below.refl _ _) _⟩
  · have := (callsIn_wide (n := 3)).1 (Bucket_in Fence.wide 3 trivial trivial trivial rfl (Nat.le_refl _) a0 c w)
    rw [h] at this
    exact this
end Go.Proofs.Ytoghmpdamflehaa.P
