/- forpack.frame as a pure function, and its contract: it ranges over the closure that forpack.ends makes. -/
import Derived.RangeFuncNested
import Derived.RangeFuncBound
import Derived.RangeFuncCalls
import Derived.RangeFuncLeaves
import Derived.RangeFuncFrom
import Derived.Shelf.Abstract
import Derived.Sort.QuietTacIn
import Derived.Shelf.RegionOpen
import Derived.WalkKit
import Derived.OwnWalkIn
import Derived.TacticsInMore
import Derived.LoopNIn
import Derived.LoopIn
import Derived.Test.YtkpghfklhipcnaaProg
import Derived.Test.YtkpghfklhipcnaaKit
import Derived.Test.YtkpghfklhipcnaaPx1
namespace Go.Proofs.YtkpghfklhipcnaaW.PrintWords.Kd
open Go.RowKit Go.Proofs.YtkpghfklhipcnaaW.PrintWords
section
variable {α : Type} {P : Program} {ops : Array Oper} {Q : Exit → Act → World → Prop} {rest : List Oper} {o : Oper} {a : Act}
/-- make([]T, 0, n): no element yet, room for n. -/
theorem R_makecap (d : Kd α) {w0 W : World} (base e : Nat) (hgd : o.guard = none) {N : Tmp} (_hd : o.dst = some N) (t : TypeId) (x y : Operand) (ho : o.op = .makeSlice t x y) (n : Int) (hx : a.eval x = .int .i64 0) (hy : a.eval y = .int .i64 n)
    (ht : P.underlying t = some (.slice e)) (z : Value) (bytes : Nat) (hinfo : (P.info? e).map (fun i => (i.zero, i.size, i.bytes)) = some (some z, d.sz, bytes)) (hz : z.cells.size = d.sz) (hs0 : 0 < d.sz) (hb0 : 0 < bytes)
    (z0 : α) {ok okp : Nat → Prop} (hzero : d.M W base okp z0 z.cells.toList) (hok : ∀ k, okp k → ok k) (hfresh : ok W.heap.size) (h0 : 0 ≤ n) (hl : n.toNat * bytes ≤ 281474976710656) (HB : Below base w0 W) (hbase : base ≤ W.heap.size)
    (h : ∀ v1 w1, d.R e w1 base ok v1 (List.replicate 0 z0) → Below base w0 w1 → W.grownBy w1 none → (∃ b, v1.ownBlock = some b ∧ W.heap.size ≤ b) → wpList P ops Q rest (a.put o.dst v1) w1) : wpList P ops Q (o :: rest) a W := by
  obtain ⟨m, rfl⟩ := Int.eq_ofNat_of_zero_le h0
  simp only [Int.toNat_natCast] at hl h
  obtain ⟨i0, hi, hzz⟩ := Option.map_eq_some_iff.1 hinfo
  simp only [Prod.mk.injEq] at hzz
  obtain ⟨hz0, hz1, hz2⟩ := hzz
  have hm : m ≤ 281474976710656 := Nat.le_trans (Nat.le_mul_of_pos_right _ hb0) hl
  have hr := run_make (P := P) W t e i0 z ht hi hz0 .i64 .i64 0 (m : Int) (by omega) (by omega)
    (by
      have h3 : ((i0.bytes * m : Nat) : Int) ≤ 281474976710656 := by rw [hz2, Nat.mul_comm]; omega
      rwa [Int.natCast_mul] at h3) (by omega)
  simp only [Int.toNat_natCast] at hr
  rw [hz1] at hr
  have hrun : (execOp a.eval o).run P W = .ok (.value (.slice (some ⟨W.heap.size, 0, none⟩) 0 m)) (W.alloc (.cells (madeCells z.cells (m * d.sz)) e)) := by
    simp [execOp, ho, hx, hy, hr]
  have hrep : Reps (d.M W base okp) d.sz (List.replicate m z0) (madeCells z.cells (m * d.sz)).toList := reps_made hz hs0 hzero m
  have hfull : d.R e (W.alloc (.cells (madeCells z.cells (m * d.sz)) e)) base ok (.slice (some ⟨W.heap.size, 0, none⟩) m m) (List.replicate m z0) := by
    refine ⟨fun k hk => ?_, (madeCells z.cells (m * d.sz)).toList, ?_, ?_⟩
    · have : W.heap.size = k := by simpa [Value.ownBlock] using hk
      subst this
      exact hfresh
    · have h2 := World.ownsRow_lit (base := base) (e := e) (size := d.sz) W (madeCells z.cells (m * d.sz)) m hbase (by simp [maxLen]; omega) (by simpa using hrep.1)
      simpa using h2
    · refine hrep.imp_ (fun p c hp => d.M_mono (fun k hk => ⟨hok k hk.1, fun he => ?_⟩) (M_below (d.M_bound hp) (below_alloc (Below.refl _ _) _)))
      have h3 : k = W.heap.size := by simpa [Value.ownBlock] using he
      have := hk.2.2.1
      omega
  refine event_run hgd hrun (h _ _ (R_take hfull (Nat.zero_le _)) (HB.alloc hbase _) (World.grownBy_alloc W _ none) ⟨W.heap.size, by simp [Value.ownBlock], Nat.le_refl _⟩)
end
end Go.Proofs.YtkpghfklhipcnaaW.PrintWords.Kd
namespace Go.Proofs.Ytkpghfklhipcnaa.P
open Go.RowKit Go.Shelf Go.Proofs.Ytkpghfklhipcnaa.Kit Go.Proofs.YtkpghfklhipcnaaW.PrintWords Go.Proofs.YtkpghfklhipcnaaW.PrintLast Go.Proofs.YtkpghfklhipcnaaW.PrintMore
attribute [local go_sem] Oper.semAt_some max2_int min2_int max_two min_two
set_option linter.unusedVariables false
set_option linter.unusedSimpArgs false

theorem cell_new_l (w : World) (v : Value) (t : TypeId) : (w.alloc (.cells #[v] t)).cell? ⟨w.heap.size, 0, none⟩ = some v ∧ (w.alloc (.cells #[v] t)).frozen? ⟨w.heap.size, 0, none⟩ = false := by simp
theorem cell_alloc_l {w : World} (o : Obj) {p : Addr} {v : Value} (h : w.cell? p = some v) : (w.alloc o).cell? p = some v := pw_cell_below (below_alloc (Below.refl _ _) o) h
theorem frozen_alloc_l {w : World} (o : Obj) {p : Addr} {v : Value} (hc : w.cell? p = some v) (h : w.frozen? p = false) : (w.alloc o).frozen? p = false := (frozen_kept hc (World.grownBy_alloc w o none) (fun r e => by cases e)).trans h
def intOf : Value → Int | .int _ q => q | _ => 0
/-- The least and the greatest of the first k numbers. -/
def stE (zs : List Int) : Nat → Int × Int
  | 0 => (0, 0)
  | k + 1 => let v := rd zs (k : Int); let s := if k = 0 then (v, v) else stE zs k; (if v < s.1 then v else s.1, if s.2 < v then v else s.2)
def eP (zs : List Int) (k : Nat) : List (Int × Int) := (List.range k).map fun j => stE zs (j + 1)
theorem eP_succ (zs : List Int) (k : Nat) : eP zs (k + 1) = eP zs k ++ [stE zs (k + 1)] := by simp [eP, List.range_succ]
theorem eP_length (zs : List Int) (k : Nat) : (eP zs k).length = k := by simp [eP]
abbrev encU (p : Int × Int) : Array Value := #[.int .u64 p.1, .int .u64 p.2]
set_option maxRecDepth 100000 in
set_option maxHeartbeats 4000000 in
/-- The least and the greatest, number by number; it stops where a round says 'no more'. -/
theorem ends1_in (F : Fence) (n : Nat) (h47 : F.fn 47) (hro : F.round = none) (hn : 1 ≤ n) (l Bs : Nat) (w0 : World) (A : Option Addr) (cap : Nat) (zs : List Int) (hz : zs.length < 140737488355328) (hr : Kd.C (Kd.int .u64) w0 A zs.length zs)
    (J Jx : List (Int × Int) → World → Prop)
    (hY : ∀ pre x W, J pre W → pre.length < zs.length → YieldAt F (n - 1) Try.prog l (encU x) W fun e W' =>
      (e = .returned (.bool true) ∧ J (pre ++ [x]) W' ∧ Below w0.heap.size W W') ∨ (e = .returned (.bool false) ∧ Jx (pre ++ [x]) W'))
    (W : World) (hB : Below w0.heap.size w0 W) (hBs : W.cell? ⟨Bs, 0, none⟩ = some (.slice A zs.length cap)) (h0 : J [] W) :
    CallsIn F n Try.prog 47 #[.func (.yield l) #[] #[], .pointer (some ⟨Bs, 0, none⟩)] W fun e W' => (∃ v, e = .returned v) ∧
      ((∃ ys, ys = eP zs zs.length ∧ J ys W') ∨ (∃ pre, (∃ k, k ≤ zs.length ∧ pre = eP zs k) ∧ Jx pre W')) := by
  refine callsIn_of_wp Try.func47 rfl h47 ?_ hro
  simp only [Try.ntmps47, List.size_toArray, List.length_cons, List.length_nil, Nat.reduceAdd, Nat.reduceSub, Array.replicate_succ, Array.replicate_zero, List.push_toArray, List.append_toArray, List.nil_append, List.cons_append]
  gi_wp2
  gi_loopw [3, 4, 9] (fun p q i wr => ∃ k : Nat, k ≤ zs.length ∧ p = .int .u64 (stE zs k).1 ∧ q = .int .u64 (stE zs k).2 ∧ i = .int .i64 (k : Int) ∧ J (eP zs k) wr ∧ Below w0.heap.size w0 wr)
    (fun p q i _ => zs.length - (intOf i).toNat)
  case atStart => exact ⟨0, Nat.zero_le _, rfl, rfl, rfl, h0, hB⟩
  case round =>
    obtain ⟨k, hk, rfl, rfl, rfl, hJs, hnx⟩ := hrel
    by_cases hlt : k < zs.length
    · have hY1 := hY _ (stE zs (k + 1)) wr hJs (by rw [eP_length]; exact hlt)
      obtain ⟨ad, rfl, hcell⟩ := Kd.at_int (Kd.C_below hr hnx) (k : Int) (by omega) (by omega)
      rw [Int.toNat_natCast] at hcell
      have c1 : decide ((k : Int) < (zs.length : Int)) = true := decide_eq_true (by omega)
      have c2 : decide (k < zs.length) = true := decide_eq_true hlt
      have hw : wrap64 ((k : Int) + 1) = ((k + 1 : Nat) : Int) := by
        rw [wrap64_id (by omega) (by omega)]
        rfl
      have hE : stE zs (k + 1) = (if rd zs (k : Int) < (if k = 0 then (rd zs (k : Int), rd zs (k : Int)) else stE zs k).1 then rd zs (k : Int) else (if k = 0 then (rd zs (k : Int), rd zs (k : Int)) else stE zs k).1, if (if k = 0 then (rd zs (k : Int), rd zs (k : Int)) else stE zs k).2 < rd zs (k : Int) then rd zs (k : Int) else (if k = 0 then (rd zs (k : Int), rd zs (k : Int)) else stE zs k).2) := rfl
      generalize hv : rd zs (k : Int) = v at *
      obtain ⟨s, hs⟩ : ∃ s, stE zs k = s := ⟨_, rfl⟩
      rw [hs] at hE ⊢
      by_cases hk0 : k = 0
      · have c3 : ((k : Int) == 0) = true := by rw [hk0]; rfl
        have c4 : decide ((k : Int) = 0) = true := decide_eq_true (by omega)
        have c5 : decide (k = 0) = true := decide_eq_true hk0
        have c6 : (k == 0) = true := by rw [hk0]; rfl
        have HP : stE zs (k + 1) = (v, v) := by
          rw [hE]
          simp only [if_pos hk0, Int.lt_irrefl, if_false]
        rw [HP] at hY1
        obtain ⟨fn, tmps, assign, body, hy, hR⟩ := hY1
        dsimp only [encU] at hy
        clear hE hk0
        gi_wp2
        refine hR.mono ?_
        rintro e W3 (⟨rfl, hJ3, hk3⟩ | ⟨rfl, hJx3⟩)
        · gi_wp2
          go_roundw
          case rel => exact ⟨k + 1, hlt, by rw [HP], by rw [HP], rfl, by rw [eP_succ, HP]; exact hJ3, hnx.trans hk3⟩
          case measure => exact (by clear hw; simp [intOf]; omega)
        · gi_wp2
          refine bodyPost_ret (results_none rfl _ _ _) rfl ?_
          exact ⟨⟨_, rfl⟩, .inr ⟨_, ⟨k + 1, hlt, by rw [eP_succ, HP]⟩, hJx3⟩⟩
      · have c3 : ((k : Int) == 0) = false := by simpa using hk0
        have c4 : decide ((k : Int) = 0) = false := decide_eq_false (by omega)
        have c5 : decide (k = 0) = false := decide_eq_false hk0
        have c6 : (k == 0) = false := by simpa using hk0
        by_cases d1 : v < s.1
        · by_cases d2 : s.2 < v
          · have HP : stE zs (k + 1) = (v, v) := by
              rw [hE]
              simp only [if_neg hk0, if_pos d1, if_pos d2]
            rw [HP] at hY1
            obtain ⟨fn, tmps, assign, body, hy, hR⟩ := hY1
            dsimp only [encU] at hy
            clear hE hk0
            gi_wp2
            refine hR.mono ?_
            rintro e W3 (⟨rfl, hJ3, hk3⟩ | ⟨rfl, hJx3⟩)
            · gi_wp2
              go_roundw
              case rel => exact ⟨k + 1, hlt, by rw [HP], by rw [HP], rfl, by rw [eP_succ, HP]; exact hJ3, hnx.trans hk3⟩
              case measure => exact (by clear hw; simp [intOf]; omega)
            · gi_wp2
              refine bodyPost_ret (results_none rfl _ _ _) rfl ?_
              exact ⟨⟨_, rfl⟩, .inr ⟨_, ⟨k + 1, hlt, by rw [eP_succ, HP]⟩, hJx3⟩⟩
          · have HP : stE zs (k + 1) = (v, s.2) := by
              rw [hE]
              simp only [if_neg hk0, if_pos d1, if_neg d2]
            rw [HP] at hY1
            obtain ⟨fn, tmps, assign, body, hy, hR⟩ := hY1
            dsimp only [encU] at hy
            clear hE hk0
            gi_wp2
            refine hR.mono ?_
            rintro e W3 (⟨rfl, hJ3, hk3⟩ | ⟨rfl, hJx3⟩)
            · gi_wp2
              go_roundw
              case rel => exact ⟨k + 1, hlt, by rw [HP], by rw [HP], rfl, by rw [eP_succ, HP]; exact hJ3, hnx.trans hk3⟩
              case measure => exact (by clear hw; simp [intOf]; omega)
            · gi_wp2
              refine bodyPost_ret (results_none rfl _ _ _) rfl ?_
              exact ⟨⟨_, rfl⟩, .inr ⟨_, ⟨k + 1, hlt, by rw [eP_succ, HP]⟩, hJx3⟩⟩
        · by_cases d2 : s.2 < v
          · have HP : stE zs (k + 1) = (s.1, v) := by
              rw [hE]
              simp only [if_neg hk0, if_neg d1, if_pos d2]
            rw [HP] at hY1
            obtain ⟨fn, tmps, assign, body, hy, hR⟩ := hY1
            dsimp only [encU] at hy
            clear hE hk0
            gi_wp2
            refine hR.mono ?_
            rintro e W3 (⟨rfl, hJ3, hk3⟩ | ⟨rfl, hJx3⟩)
            · gi_wp2
              go_roundw
              case rel => exact ⟨k + 1, hlt, by rw [HP], by rw [HP], rfl, by rw [eP_succ, HP]; exact hJ3, hnx.trans hk3⟩
              case measure => exact (by clear hw; simp [intOf]; omega)
            · gi_wp2
              refine bodyPost_ret (results_none rfl _ _ _) rfl ?_
              exact ⟨⟨_, rfl⟩, .inr ⟨_, ⟨k + 1, hlt, by rw [eP_succ, HP]⟩, hJx3⟩⟩
          · have HP : stE zs (k + 1) = (s.1, s.2) := by
              rw [hE]
              simp only [if_neg hk0, if_neg d1, if_neg d2]
            rw [HP] at hY1
            obtain ⟨fn, tmps, assign, body, hy, hR⟩ := hY1
            dsimp only [encU] at hy
            clear hE hk0
            gi_wp2
            refine hR.mono ?_
            rintro e W3 (⟨rfl, hJ3, hk3⟩ | ⟨rfl, hJx3⟩)
            · gi_wp2
              go_roundw
              case rel => exact ⟨k + 1, hlt, by rw [HP], by rw [HP], rfl, by rw [eP_succ, HP]; exact hJ3, hnx.trans hk3⟩
              case measure => exact (by clear hw; simp [intOf]; omega)
            · gi_wp2
              refine bodyPost_ret (results_none rfl _ _ _) rfl ?_
              exact ⟨⟨_, rfl⟩, .inr ⟨_, ⟨k + 1, hlt, by rw [eP_succ, HP]⟩, hJx3⟩⟩
    · obtain rfl : k = zs.length := by omega
      gi_wp2
      go_end0
      exact ⟨⟨_, rfl⟩, .inl ⟨_, rfl, hJs⟩⟩
theorem ends_stops (F : Fence) (n : Nat) (h47 : F.fn 47) (hro : F.round = none) (hn : 1 ≤ n) (Bs : Nat) (w0 : World) (A : Option Addr) (cap : Nat) (zs : List Int) (hz : zs.length < 140737488355328) (hr : Kd.C (Kd.int .u64) w0 A zs.length zs)
    (w : World) (hB : Below w0.heap.size w0 w) (hn0 : w0.heap.size ≤ w.heap.size) (hBl : Bs < w.heap.size) (hBs : w.cell? ⟨Bs, 0, none⟩ = some (.slice A zs.length cap)) :
    SeqStopsK F n Try.prog 47 #[.pointer (some ⟨Bs, 0, none⟩)] encU (Below w0.heap.size) (fun ys => ys = eP zs zs.length) (fun pre => ∃ k, k ≤ zs.length ∧ pre = eP zs k) zs.length w := fun l J Jx W hW _ _ hY h0 =>
  ends1_in F n h47 hro hn l Bs w0 A cap zs hz hr J Jx hY W (hB.trans (hW.mono hn0)) ((hW.cell (p := ⟨Bs, 0, none⟩) hBl).trans hBs) h0
theorem ends_call (F : Fence) (n : Nat) (h39 : F.fn 39) (hro : F.round = none) (A : Option Addr) (len cap : Nat) (w : World) : CallsIn F n Try.prog 39 #[.slice A len cap] w fun e w' => e = .returned (.func (.func 47) #[] #[.pointer (some ⟨w.heap.size, 0, none⟩)]) ∧ w' = w.alloc (.cells #[.slice A len cap] 22) := by
  refine callsIn_of_wp Try.func39 rfl h39 ?_ hro
  simp only [Try.ntmps39, List.size_toArray, List.length_cons, List.length_nil, Nat.reduceAdd, Nat.reduceSub, Array.replicate_succ, Array.replicate_zero, List.push_toArray, List.append_toArray, List.nil_append, List.cons_append]
  gi_wp2
  go_ret
  exact ⟨rfl, rfl⟩
def lastE (pre : List (Int × Int)) : Int × Int := pre.getLast?.getD (0, 0)
theorem lastE_snoc (pre : List (Int × Int)) (x : Int × Int) : lastE (pre ++ [x]) = x := by simp [lastE]
theorem lastE_eP (zs : List Int) (k : Nat) : lastE (eP zs k) = stE zs k := by
  cases k with
  | zero => rfl
  | succ k => rw [eP_succ, lastE_snoc]
def forpack_frame.f (l : List Int) : Option (Int × Int) := if l.length < 140737488355328 then (bits_Width.f (IntKind.u64.wrap ((stE l l.length).2 - (stE l l.length).1))).bind fun r => some ((stE l l.length).1, r) else none
set_option maxRecDepth 100000 in
set_option maxHeartbeats 4000000 in
theorem frame_in (F : Fence) (n : Nat) (hfn : ∀ k, F.fn k) (hro : F.round = none) (hn : 3 ≤ n) (A : Option Addr) (cap : Nat) (zs : List Int) (hz : zs.length < 140737488355328) (w : World) (hr : Kd.C (Kd.int .u64) w A zs.length zs) (r : Int)
    (hW : ∀ w, CallsIn F (n - 1) Try.prog 16 #[.int .u64 (IntKind.u64.wrap ((stE zs zs.length).2 - (stE zs zs.length).1))] w fun e w' => e = .returned (.int .i64 r) ∧ Drawn0 w w') :
    CallsIn F n Try.prog 18 #[.slice A zs.length cap] w fun e W' => e = .returned (.tuple #[.int .u64 (stE zs zs.length).1, .int .i64 r]) ∧ Below w.heap.size w W' := by
  have h1 : 1 ≤ n := by omega
  refine callsIn_of_wp_marks Try.func18 rfl (hfn _) ?_ hro
  simp only [Try.ntmps18, List.size_toArray, List.length_cons, List.length_nil, Nat.reduceAdd, Nat.reduceSub, Array.replicate_succ, Array.replicate_zero, List.push_toArray, List.append_toArray, List.nil_append, List.cons_append]
  gi_wp2_with (gi_at_call 39; refine (ends_call F (n - 1) (hfn _) hro _ _ _ _).mono ?_; rintro e w' ⟨rfl, rfl⟩)
  have c0 := cell_new_l w (.int .u64 0) 35
  have c1 := cell_new_l (w.alloc (.cells #[.int .u64 0] 35)) (.int .u64 0) 35
  have c2 := cell_new_l ((w.alloc (.cells #[.int .u64 0] 35)).alloc (.cells #[.int .u64 0] 35)) (.slice A zs.length cap) 22
  simp only [World.size_alloc] at c1 c2
  have hB0 : Below w.heap.size w (((w.alloc (.cells #[.int .u64 0] 35)).alloc (.cells #[.int .u64 0] 35)).alloc (.cells #[.slice A zs.length cap] 22)) := (((Below.refl _ w).alloc (Nat.le_refl _) _).alloc (by simp) _).alloc (by simp; omega) _
  refine wpIn_rangeFunc_ownF hro h1 (gf := 47) (lb := #[.pointer (some ⟨w.heap.size + 1 + 1, 0, none⟩)]) rfl (hfn _) (enters_of Try.func47 (by kernel_rfl) rfl)
    (ends_stops F (n - 1) (hfn _) hro (by omega) (w.heap.size + 1 + 1) w A cap zs hz hr _ hB0 (by simp; omega) (by simp) c2.1) belowK_t (belowK_b (by simp; omega)) (Below.refl _ _) (fun _ => rfl)
    (fun pre W => (W.cell? ⟨w.heap.size, 0, none⟩ = some (.int .u64 (lastE pre).1) ∧ W.frozen? ⟨w.heap.size, 0, none⟩ = false ∧ W.cell? ⟨w.heap.size + 1, 0, none⟩ = some (.int .u64 (lastE pre).2) ∧ W.frozen? ⟨w.heap.size + 1, 0, none⟩ = false) ∧ Below w.heap.size w W)
    (fun _ _ _ => False)
    (OwnFrom.and (Own.from (fun s A B row hs hg hr => ⟨cell_kept hs.1 hg hr, (frozen_kept hs.1 hg hr).trans hs.2.1, cell_kept hs.2.2.1 hg hr, (frozen_kept hs.2.2.1 hg hr).trans hs.2.2.2⟩) _) (ownFrom_below (Nat.le_refl _) (by simp; omega)))
    (fun _ _ _ _ _ hs _ _ => hs)
    ⟨⟨cell_alloc_l _ (cell_alloc_l _ c0.1), frozen_alloc_l _ (cell_alloc_l _ c0.1) (frozen_alloc_l _ c0.1 c0.2), cell_alloc_l _ c1.1, frozen_alloc_l _ c1.1 c1.2⟩, hB0⟩
    (fun x => { tmps := #[.slice A zs.length cap, undef, .int .u64 0, .int .i64 0, .pointer (some ⟨w.heap.size, 0, none⟩), .pointer (some ⟨w.heap.size + 1, 0, none⟩), .int .u64 x.1, .int .u64 x.2, .slice A zs.length cap, .func (.func 47) #[] #[.pointer (some ⟨w.heap.size + 1 + 1, 0, none⟩)], .int .u64 x.1, .int .u64 x.2, undef, undef, undef, undef, undef, undef, undef], defers := [] }) ?assign ?body ?done ?stop
  case assign =>
    intro l x W K hK
    gi_wp2
    exact hK
  case body =>
    rintro l pre x W ⟨⟨hc0, hf0, hc1, hf1⟩, hB⟩ _
    gi_wp2
    have e1 := World.cell?_setCell_same' W ⟨w.heap.size, 0, none⟩ (.int .u64 x.1) (by rw [hc0]; rfl)
    have e2 : (W.setCell ⟨w.heap.size, 0, none⟩ (.int .u64 x.1)).cell? ⟨w.heap.size + 1, 0, none⟩ = some (.int .u64 (lastE pre).2) := (World.cell?_setCell_other _ _ _ _ (by intro e; injection e with e1; omega)).trans hc1
    refine ⟨(KeepsOthers.setCell _ _ _).trans (KeepsOthers.setCell _ _ _), ((Below.refl w.heap.size W).setCell (p := ⟨w.heap.size, 0, none⟩) (Nat.le_refl _) _).setCell (p := ⟨w.heap.size + 1, 0, none⟩) (by simp) _, ⟨?_, ?_, ?_, ?_⟩, (hB.setCell (p := ⟨w.heap.size, 0, none⟩) (Nat.le_refl _) _).setCell (p := ⟨w.heap.size + 1, 0, none⟩) (by simp) _⟩
    · rw [lastE_snoc]
      exact (World.cell?_setCell_other _ _ _ _ (by intro e; injection e with e1; omega)).trans e1
    · rw [World.frozen?_setCell, World.frozen?_setCell]
      exact hf0
    · rw [lastE_snoc]
      exact World.cell?_setCell_same' _ _ _ (by rw [e2]; rfl)
    · rw [World.frozen?_setCell, World.frozen?_setCell]
      exact hf1
  case done =>
    rintro D ys W hD rfl ⟨⟨hc0, hf0, hc1, hf1⟩, hB⟩ hK
    rw [lastE_eP] at hc0 hc1
    gi_wp2
    refine wpIn_region_quiet_lit hro (by kernel_rfl) (by kernel_rfl) ?_
    repeat (quiet_step_in (first | (gi_at_call 16; exact CallsIn.quiet_of ((hW _).mono fun _ _ h => ⟨h.1, h.2.out⟩)) | (refine ⟨fun _ => h1, ?_⟩; exact CallsIn.quiet_of ((hW _).mono fun _ _ h => ⟨h.1, h.2.out⟩))))
    refine wpQuietIn_nil ?_
    intro _ hw'
    obtain ⟨nq, hw2⟩ := hw'
    subst hw2
    gi_wp2
    have hK' : (W.drewN nq).heap[D]? = some (.deferred (some [])) := hK
    refine ⟨by simp, .inl ⟨_, _, rfl, run_takeDeferred hK', ?_⟩⟩
    exact ⟨_, results_tmp2 rfl _ _ _, rfl, (hB.trans (⟨rfl, rfl, rfl, Nat.le_refl _, fun _ _ => rfl⟩ : Below w.heap.size W (W.drewN nq))).trans (belowK_b (w := w) (Nat.le_refl _) _ D _ _ (by simp at hD; omega) hK' rfl rfl)⟩
  case stop =>
    rintro D c pre W _ _ h _
    exact h.elim
theorem forpack_frame.calls (A0 : Option Addr) (c0 : Nat) (l : List Int) (r1 r2 : Int) (w : World) (hr0 : Kd.C (Kd.int .u64) w A0 l.length l) (hc0 : l.length ≤ c0) (h : forpack_frame.f l = some (r1, r2)) :
    Calls Try.prog 18 #[.slice A0 l.length c0] w fun e w' => e = .returned (.tuple #[.int .u64 r1, .int .i64 r2]) ∧ Below w.heap.size w w' := by
  unfold forpack_frame.f at h
  split at h
  case isFalse => cases h
  case isTrue hz =>
    obtain ⟨r, hwd, h⟩ := Option.bind_eq_some_iff.mp h
    injection h with h
    injection h with h1 h2
    subst h1 h2
    exact (callsIn_wide (n := 3)).1 (frame_in Fence.wide 3 (fun _ => trivial) rfl (Nat.le_refl _) A0 c0 l hz w hr0 r (fun w => (callsIn_wide (n := 2)).2 (bits_Width.calls _ _ w hwd)))
end Go.Proofs.Ytkpghfklhipcnaa.P
