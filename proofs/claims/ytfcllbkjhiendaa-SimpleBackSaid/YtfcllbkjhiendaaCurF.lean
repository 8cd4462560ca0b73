/- The cursor's Fixed and Block: contracts. -/
import Derived.Test.YtfcllbkjhiendaaPx3
import Derived.Test.YtfcllbkjhiendaaCurM
import Derived.Test.YtfcllbkjhiendaaBits
import Derived.OneCell
import Derived.RegionTactic
import Derived.BigRegion
import Derived.Outline
import Derived.Deep.QuietTactic
import Derived.BigQuiet
namespace Go.Proofs.Ytfcllbkjhiendaa.P
open Go.RowKit Go.Proofs.Ytfcllbkjhiendaa.Kit Go.Proofs.Ytfcllbkjhiendaa.Var Go.Proofs.YtfcllbkjhiendaaW.PrintWords Go.Proofs.YtfcllbkjhiendaaW.PrintLast Go.Proofs.YtfcllbkjhiendaaW.PrintMore
attribute [local go_sem] max2_int min2_int max_two min_two max_three min_three max_four min_four
set_option linter.unusedVariables false
set_option linter.unusedSimpArgs false

theorem be_step (v x : Int) (t : List Int) (k : Nat) (hk : k + 1 + t.length ≤ 8) (h0 : 0 ≤ v) (h1 : v < 256 ^ k) (hx : 0 ≤ x ∧ x < 256) : Go.bits .or .u64 (IntKind.u64.wrap (v * 256)) (IntKind.u64.wrap x) = v * 256 + x ∧ 0 ≤ v * 256 + x ∧ v * 256 + x < 256 ^ (k + 1) := by
  have hp : (256 : Int) ^ k ≤ 72057594037927936 := by
    have key : ∀ k : Fin 8, (256 : Int) ^ (k : Nat) ≤ 72057594037927936 := by decide
    exact key ⟨k, by omega⟩
  have h2 : v < 72057594037927936 := by omega
  rw [k64_id (v * 256) (by omega) (by omega), k64_id x hx.1 (by omega), Int.pow_succ]
  refine ⟨?_, by omega, by omega⟩
  exact k64_or_add' 8 x (v * 256) hx.1 (by omega) (by omega) (by omega) (by omega) (by omega)
theorem cBytes_bytes (b : List Int) (n : Int) (hb : Bytes b) : Bytes (cBytes b n).1 ∧ Bytes (cBytes b n).2.1 := by
  unfold cBytes
  split
  · exact ⟨Bytes.nil, hb⟩
  · split
    · exact ⟨Bytes.nil, hb⟩
    · exact ⟨hb.take _, hb.drop _⟩
theorem cBytes_len (b : List Int) (n : Int) : ((cBytes b n).1.length : Int) ≤ n ∨ (cBytes b n).1.length = 0 := by
  unfold cBytes
  split
  · right; rfl
  · split
    · right; rfl
    · left
      simp only [List.length_take]
      omega
theorem Fixed_any (w0 W : World) (g : Nat) (b : List Int) (n : Int) (h : Cu W w0.heap.size g b) (hB : Below w0.heap.size w0 W) (hb : b.length < 140737488355328) (hby : Bytes b) :
    Calls Try.prog 26 #[.pointer (some ⟨g, 0, none⟩), .int .i64 n] W fun e W' => e = .returned (.tuple #[.int .u64 (cFixed b n).1, .int .i64 (cFixed b n).2.2]) ∧ CuP w0 W W' g (cFixed b n).2.1 := by
  by_cases c0 : 8 < n
  · have e : cFixed b n = (0, b, 1) := by
      unfold cFixed
      rw [if_pos c0]
    rw [e]
    have c1 : decide (8 < n) = true := decide_eq_true c0
    have HH := Aside0.mk h
    have HB := Aside0.mk hB
    clear h hB hb hby e c0
    go_enter Try.func26, Try.ntmps26
    go_wp2
    go_ret2
    exact ⟨rfl, CuP.drew HH.out HB.out (by repeat (first | exact Drawn0.refl _ | apply Drawn0.step))⟩
  · have e : cFixed b n = (be (cBytes b n).1 0, (cBytes b n).2.1, (cBytes b n).2.2) := by
      unfold cFixed
      rw [if_neg c0]
    rw [e]
    have c1 : decide (8 < n) = false := decide_eq_false c0
    have hcall := Bytes_any w0 W g b n h hB hb
    have hbt := (cBytes_bytes b n hby).1
    have hlen : (cBytes b n).1.length ≤ 8 := by
      have := cBytes_len b n
      omega
    generalize cBytes b n = r at hcall hbt hlen ⊢
    obtain ⟨x, b', er⟩ := r
    simp only at hcall hbt hlen ⊢
    have HCALL := Aside0.mk hcall
    have HBT := Aside0.mk hbt
    have HL8 := Aside0.mk hlen
    clear h hB hb hby e c0 hcall hbt hlen
    go_enter Try.func26, Try.ntmps26
    go_wp2_with (go_at_call 33; refine HCALL.out.mono ?_; rintro e w1 ⟨v0, rfl, ho, hp⟩; have HP := Aside0.mk hp; have HO := Aside0.mk ho; obtain ⟨A, c, eq⟩ := Kd.R_slice ho; subst eq; clear ho hp)
    go_loopg [8, 21] x.length (fun kq v8 v21 W' => ∃ (k : Nat) (v : Int), v8 = .int .u64 v ∧ v21 = .int .i64 (k : Int) ∧ kq = x.length - k ∧ k ≤ x.length ∧ Aside0 (0 ≤ v ∧ v < 256 ^ k) ∧ Aside0 (be (x.drop k) v = be x 0) ∧ W' = w1)
    case atStart => exact ⟨0, 0, rfl, rfl, rfl, Nat.zero_le _, ⟨by decide⟩, ⟨rfl⟩, rfl⟩
    case round =>
      obtain ⟨k, v, rfl, rfl, rfl, hk, HV, HE, rfl⟩ := hrel
      by_cases hlt : k < x.length
      · have c3 : decide ((k : Int) < (x.length : Int)) = true := decide_eq_true (by omega)
        have c4 : decide (k < x.length) = true := decide_eq_true hlt
        have ho := HO.out
        obtain ⟨q, q2, eq, qb, ql, qc, hq⟩ := Kd.R_form ho (by omega)
        injection eq with e1 e2 e3
        subst e1 e3
        obtain ⟨x2, f2⟩ := Kd.R_celln 0 ho (k : Int) (by omega) (by omega)
        rw [Int.toNat_natCast] at x2
        clear ho f2 hq e2
        have i1 : (0 : Int) ≤ (k : Int) := by omega
        have i2 : (k : Int) < (x.length : Int) := by omega
        go_wp2
        go_roundg (x.length - (k + 1))
        case measure => exact (by clear i1 i2; omega)
        case rel =>
          have hx : rdOf 0 x (k : Int) = x.getD k 0 := rfl
          have hd : x.drop k = x.getD k 0 :: x.drop (k + 1) := by
            rw [List.getD_eq_getElem?_getD, List.getElem?_eq_getElem hlt, List.drop_eq_getElem_cons hlt]
            rfl
          obtain ⟨e1, e2, e3⟩ := be_step v (x.getD k 0) (x.drop (k + 1)) k (by have := HL8.out; rw [List.length_drop]; omega) HV.out.1 HV.out.2 (HBT.out _ (by rw [List.getD_eq_getElem?_getD, List.getElem?_eq_getElem hlt]; exact List.getElem_mem hlt))
          have e4 : wrap64 ((k : Int) + 1) = ((k + 1 : Nat) : Int) := by
            have := HL8.out
            rw [wrap64_id (by omega) (by omega)]
            rfl
          clear i1 i2
          refine ⟨k + 1, v * 256 + x.getD k 0, by rw [hx, e1], by rw [e4], rfl, hlt, ⟨e2, e3⟩, ⟨?_⟩, rfl⟩
          rw [← HE.out, hd]
          rfl
      · have c3 : decide ((k : Int) < (x.length : Int)) = false := decide_eq_false (by omega)
        have c4 : decide (k < x.length) = false := decide_eq_false hlt
        go_wp2
        go_ret2
        have he := HE.out
        rw [show x.drop k = [] from by rw [List.drop_eq_nil_iff]; omega] at he
        rw [← he]
        exact ⟨rfl, HP.out⟩
theorem Fixed_none (n : Int) (W : World) : Calls Try.prog 26 #[.pointer none, .int .i64 n] W fun e W' => e = .returned (.tuple #[.int .u64 0, .int .i64 1]) ∧ Drawn0 W W' := by
  by_cases c0 : 8 < n
  · have c1 : decide (8 < n) = true := decide_eq_true c0
    clear c0
    go_enter Try.func26, Try.ntmps26
    go_wp2
    go_ret2
    exact ⟨rfl, by repeat (first | exact Drawn0.refl _ | apply Drawn0.step)⟩
  · have c1 : decide (8 < n) = false := decide_eq_false c0
    clear c0
    go_enter Try.func26, Try.ntmps26
    go_wp2_with (go_at_call 33; refine (Bytes_none n _).mono ?_; rintro e w1 ⟨rfl, hd⟩; have HD := Aside0.mk hd; clear hd)
    go_loopg [8, 21] 0 (fun kq v8 v21 W' => v8 = .int .u64 0 ∧ v21 = .int .i64 0 ∧ W' = w1)
    case atStart => exact ⟨rfl, rfl, rfl⟩
    case round =>
      obtain ⟨rfl, rfl, rfl⟩ := hrel
      go_wp2
      go_ret2
      exact ⟨rfl, HD.out⟩
theorem block_facts (l m u : Nat) (h1 : m ≤ l) (hb : l < 140737488355328) : wrap64 ((l : Int) - (m : Int)) = ((l - m : Nat) : Int) ∧ IntKind.u64.wrap ((l - m : Nat) : Int) = ((l - m : Nat) : Int) ∧ (¬ ((l : Int) - (m : Int) < (u : Int)) → IntKind.i64.wrap (u : Int) = (u : Int)) := by
  obtain ⟨d, hd⟩ : ∃ d : Nat, d = l - m := ⟨_, rfl⟩
  have hdl : d ≤ l := by omega
  have e : (l : Int) - (m : Int) = (d : Int) := by omega
  rw [← hd, e]
  have p0 : (0 : Int) ≤ (d : Int) := by omega
  have p1 : (d : Int) < 140737488355328 := by omega
  clear hd e hdl h1
  refine ⟨wrap64_id (by omega) (by omega), k64_id _ p0 (by omega), fun h => ?_⟩
  have q1 : (u : Int) < 140737488355328 := by omega
  exact (i64_w _).trans (wrap64_id (by omega) (by omega))
end Go.Proofs.Ytfcllbkjhiendaa.P
