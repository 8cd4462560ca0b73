/- The bit reader's methods: what the walks of NewReader, Left, Get and End come to. -/
import Derived.Test.YtjpepmnkiicgoaaPx1
import Derived.Test.YtjpepmnkiicgoaaPx2
import Derived.Test.YtjpepmnkiicgoaaBitsW
import Derived.OneCell
import Derived.RegionTactic
import Derived.BigRegion
import Derived.Outline
import Derived.Deep.QuietTactic
import Derived.BigQuiet
namespace Go.Proofs.Ytjpepmnkiicgoaa.P
open Go.RowKit Go.Proofs.Ytjpepmnkiicgoaa.Kit Go.Proofs.YtjpepmnkiicgoaaW.PrintWords Go.Proofs.YtjpepmnkiicgoaaW.PrintLast Go.Proofs.YtjpepmnkiicgoaaW.PrintMore
attribute [local go_sem] max2_int min2_int max_two min_two max_three min_three max_four min_four
set_option linter.unusedVariables false
set_option linter.unusedSimpArgs false

/-! the reader -/
/-- A reader at block g of W: over the bytes b, so many bits read. -/
def Rd (W : World) (B : Nat) (ok : Nat → Prop) (g : Nat) (b : List Int) (n : Nat) : Prop :=
  ∃ v, W.heap[g]? = some (.cells #[v, .int .i64 (n : Int)] 59 (0, 0)) ∧ B ≤ g ∧ Kd.R (Kd.int .u8) 5 W B (fun k => k ≠ g ∧ ok k) v b
theorem NewReader_any (w0 W : World) (A : Option Addr) (c : Nat) (b : List Int) (hB : Below w0.heap.size w0 W) (hr : Kd.C (Kd.int .u8) W A b.length b) (hc : b.length ≤ c) (hb : b.length < 140737488355328) :
    Calls Try.prog 18 #[.slice A b.length c] W fun e W' => ∃ g, e = .returned (.pointer (some ⟨g, 0, none⟩)) ∧ Rd W' w0.heap.size (fun k => W.heap.size ≤ k) g b 0 ∧ W.heap.size ≤ g ∧ Below w0.heap.size w0 W' ∧ Below W.heap.size W W' := by
  have HR := Aside0.mk hr
  have HCC := Aside0.mk hc
  have HC := Aside0.mk (bclone_f b hb)
  have HB0 := Aside0.mk hB
  clear hr hb hc hB
  go_enter Try.func18, Try.ntmps18
  go_wp2_with (go_at_call 27; refine (slices_Clone_byte_byte.calls _ _ b b _ HR.out HCC.out HC.out).mono ?_; rintro e w1 ⟨v1, rfl, ho, hb⟩; have HO := Aside0.mk ho; have HB := Aside0.mk hb; clear ho hb; obtain ⟨A9, q9, e9⟩ := Kd.R_slice HO.out; subst e9)
  go_ret
  exact ⟨_, rfl, ⟨_, blk_new _ _, Nat.le_trans HB0.out.size HB.out.size, Kd.R_alloc (Kd.R_mono (Kd.R_bound (Kd.R_lower (Kd.R_mono (Kd.R_bound HO.out) (fun k hk => hk.2.1)) HB0.out.size)) (fun k hk => ⟨by have := hk.2.2.1; omega, hk.1⟩)) _⟩, HB.out.size, below_alloc (below_step HB0.out HB.out) _, below_alloc HB.out _⟩
theorem Left_good (W : World) (B : Nat) (ok : Nat → Prop) (g : Nat) (b : List Int) (n : Nat) (h : Rd W B ok g b n) (hb : b.length < 2097152) (hn : n ≤ 8 * b.length) : Calls Try.prog 20 #[.pointer (some ⟨g, 0, none⟩)] W fun e W' => e = .returned (.int .i64 ((8 * b.length - n : Nat) : Int)) ∧ Drawn0 W W' := by
  obtain ⟨vb, hg, hBg, hR⟩ := h
  obtain ⟨A1, q1, e1⟩ := Kd.R_slice hR
  subst e1
  obtain ⟨x0, x1, f0, f1⟩ := two_cells hg
  obtain ⟨r, hr1, hr2, hr3⟩ : ∃ r : Nat, r = 8 * b.length - n ∧ wrap64 ((b.length : Int) * 8) = (b.length : Int) * 8 ∧ wrap64 ((b.length : Int) * 8 - (n : Int)) = (r : Int) := ⟨_, rfl, wrap64_in (by omega) (by omega), by rw [wrap64_in (by omega) (by omega)]; omega⟩
  rw [← hr1]
  clear hg hR hb hn hr1
  go_enter Try.func20, Try.ntmps20
  go_wp2
  repeat (go_quiet (fail); try go_wp2)
  go_ret
  exact ⟨by first | rfl | (simp; done) | (simp [*]; done), by repeat (first | exact Drawn0.refl _ | apply Drawn0.step)⟩
theorem Left_nil (W : World) : Calls Try.prog 20 #[.pointer none] W fun e W' => e = .returned (.int .i64 0) ∧ W = W' := by
  go_enter Try.func20, Try.ntmps20
  go_wp2
  go_ret
  exact ⟨rfl, rfl⟩
theorem Get_nil (w : Int) (W : World) : Calls Try.prog 19 #[.pointer none, .int .i64 w] W fun e W' => e = .returned (.tuple #[.int .u64 0, .int .i64 1]) ∧ W = W' := by
  go_enter Try.func19, Try.ntmps19
  go_wp2
  go_ret2
  exact ⟨rfl, rfl⟩
theorem Get_bad (g : Nat) (w : Int) (W : World) (h : w < 0 ∨ 64 < w) : Calls Try.prog 19 #[.pointer (some ⟨g, 0, none⟩), .int .i64 w] W fun e W' => e = .returned (.tuple #[.int .u64 0, .int .i64 1]) ∧ Drawn0 W W' := by
  have hwr : bits_wrong.f w = some true := by
    unfold bits_wrong.f
    by_cases c0 : w < 0
    · rw [if_pos c0]
    · rw [if_neg c0]
      simp
      omega
  have HWR := Aside0.mk hwr
  clear hwr h
  go_enter Try.func19, Try.ntmps19
  go_wp2_with (go_at_call 25; refine (bits_wrong.calls _ _ _ HWR.out).mono ?_; rintro e w1 ⟨rfl, ⟨nd, rfl⟩⟩)
  go_ret2
  exact ⟨rfl, by repeat (first | exact Drawn0.refl _ | apply Drawn0.step)⟩
theorem wrong_no (w : Nat) (hw : w ≤ 64) : bits_wrong.f (w : Int) = some false := by
  unfold bits_wrong.f
  rw [if_neg (by omega)]
  simp
  omega
theorem Get_short (W : World) (B : Nat) (ok : Nat → Prop) (g : Nat) (b : List Int) (n w : Nat) (h : Rd W B ok g b n) (hb : b.length < 2097152) (hn : n ≤ 8 * b.length) (hw : w ≤ 64) (hs : 8 * b.length - n < w) : Calls Try.prog 19 #[.pointer (some ⟨g, 0, none⟩), .int .i64 (w : Int)] W fun e W' => e = .returned (.tuple #[.int .u64 0, .int .i64 2]) ∧ Drawn0 W W' := by
  have HWR := Aside0.mk (wrong_no w hw)
  have HH := Aside0.mk h
  have HBB := Aside0.mk hb
  have HN := Aside0.mk hn
  have c1 : decide (((8 * b.length - n : Nat) : Int) < (w : Int)) = true := decide_eq_true (by omega)
  have c2 : decide (8 * b.length - n < w) = true := decide_eq_true hs
  clear h hb hn hw hs
  go_enter Try.func19, Try.ntmps19
  go_wp2_with (first | (go_at_call 25; refine (bits_wrong.calls _ _ _ HWR.out).mono ?_; rintro e w1 ⟨rfl, ⟨nd, rfl⟩⟩) | (go_at_call 20; refine (Left_good (W.drewN nd) B ok g b n HH.out HBB.out HN.out).mono ?_; rintro e w1 ⟨rfl, ⟨nd2, rfl⟩⟩))
  go_ret2
  exact ⟨rfl, by repeat (first | exact Drawn0.refl _ | apply Drawn0.step)⟩
/-- The bit at place n of bytes. -/
def bitAt (b : List Int) (n : Nat) : Int := rd b ((n / 8 : Nat) : Int) / 2 ^ (7 - n % 8) % 2
def getBits : Nat → Int → List Int → Nat → Int
  | 0, v, _, _ => v
  | d + 1, v, b, n => getBits d (v * 2 + bitAt b n) b (n + 1)
theorem next_k (k : Nat) (h : k < 64) : wrap64 ((k : Int) + 1) = ((k + 1 : Nat) : Int) := by
  rw [wrap64_in (by omega) (by omega)]
  rfl
theorem bit_val (x : Int) (h0 : 0 ≤ x) (h1 : x < 256) : Go.bits .and .u8 x 1 = x % 2 := by
  obtain ⟨n, rfl⟩ := Int.eq_ofNat_of_zero_le h0
  have key : ∀ n : Fin 256, Go.bits .and .u8 ((n : Nat) : Int) 1 = ((n : Nat) : Int) % 2 := by decide +kernel
  exact key ⟨n, by omega⟩
theorem get_val (b : List Int) (m k : Nat) (x bit : Int) (s : Nat) (hx : 0 ≤ x ∧ x < 2 ^ k) (hk : k < 64) (hby : 0 ≤ rd b ((m / 8 : Nat) : Int) ∧ rd b ((m / 8 : Nat) : Int) < 256) (hs : s = 7 - m % 8)
    (hbit : Go.bits .and .u8 (rdOf 0 b ((m : Int) / 8) / 2 ^ s) 1 = bit) : Go.bits .or .u64 (IntKind.u64.wrap (x * 2)) (IntKind.u64.wrap bit) = x * 2 + bitAt b m ∧ 0 ≤ x * 2 + bitAt b m ∧ x * 2 + bitAt b m < 2 ^ (k + 1) := by
  have hp : (0 : Int) < 2 ^ s := Int.pow_pos (by decide)
  have h0 : 0 ≤ rd b ((m / 8 : Nat) : Int) / 2 ^ s := Int.ediv_nonneg hby.1 (by omega)
  have h1 : rd b ((m / 8 : Nat) : Int) / 2 ^ s ≤ rd b ((m / 8 : Nat) : Int) := Int.ediv_le_self _ hby.1
  have e : rdOf 0 b ((m : Int) / 8) = rd b ((m / 8 : Nat) : Int) := rfl
  rw [e, bit_val _ h0 (by omega)] at hbit
  have hb : bit = bitAt b m := by
    unfold bitAt
    rw [← hs, hbit]
  have h2 : 0 ≤ bit ∧ bit < 2 := by omega
  have h3 : (2 : Int) ^ k ≤ 2 ^ 63 := by exact_mod_cast Nat.pow_le_pow_right (by decide) (show k ≤ 63 by omega)
  rw [← hb, k64_id (x * 2) (by omega) (by omega), k64_id bit (by omega) (by omega), Int.pow_succ]
  refine ⟨k64_or_add' 1 bit (x * 2) h2.1 (by omega) (by omega) (by omega) (by omega) (by omega), by omega, by omega⟩
theorem Get_good (w0 W : World) (ok : Nat → Prop) (g : Nat) (b : List Int) (n w : Nat) (h : Rd W w0.heap.size ok g b n) (hB : Below w0.heap.size w0 W) (hb : b.length < 2097152) (hw : w ≤ 64) (hs : n + w ≤ 8 * b.length) (hby : ∀ x ∈ b, 0 ≤ x ∧ x < 256) :
    Calls Try.prog 19 #[.pointer (some ⟨g, 0, none⟩), .int .i64 (w : Int)] W fun e W' => e = .returned (.tuple #[.int .u64 (getBits w 0 b n), .int .i64 0]) ∧ Rd W' w0.heap.size ok g b (n + w) ∧ Below w0.heap.size w0 W' ∧ Kept W W' (fun k => k = g) := by
  have HWR := Aside0.mk (wrong_no w hw)
  have HH := Aside0.mk h
  have HBB := Aside0.mk hb
  have HN := Aside0.mk (show n ≤ 8 * b.length by omega)
  have HB := Aside0.mk hB
  have HS := Aside0.mk hs
  have HW := Aside0.mk hw
  have HBY := Aside0.mk hby
  have HK := Aside0.mk (Kept.refl W (fun k => k = g))
  have c1 : decide (((8 * b.length - n : Nat) : Int) < (w : Int)) = false := decide_eq_false (by omega)
  have c2 : decide (8 * b.length - n < w) = false := decide_eq_false (by omega)
  clear h hb hw hs hB hby
  go_enter Try.func19, Try.ntmps19
  go_wp2_with (first | (go_at_call 25; refine (bits_wrong.calls _ _ _ HWR.out).mono ?_; rintro e w1 ⟨rfl, ⟨nd, rfl⟩⟩) | (go_at_call 20; refine (Left_good (W.drewN nd) w0.heap.size ok g b n HH.out HBB.out HN.out).mono ?_; rintro e w1 ⟨rfl, ⟨nd2, rfl⟩⟩))
  clear c1 c2
  have HH2 := Aside0.mk (show Rd (W.drewN (nd + nd2)) w0.heap.size ok g b n from HH.out)
  clear HH
  go_loopg [6, 21] w (fun kq v6 v21 W' => ∃ (k m : Nat) (x : Int), v6 = .int .u64 x ∧ v21 = .int .i64 (k : Int) ∧ kq = w - k ∧ k ≤ w ∧ Aside0 (m = n + k) ∧ Aside0 (0 ≤ x ∧ x < 2 ^ k) ∧ Aside0 (getBits (w - k) x b m = getBits w 0 b n) ∧ Aside0 (Rd W' w0.heap.size ok g b m) ∧ Aside0 (Below w0.heap.size w0 W') ∧ Aside0 (Kept W W' (fun k => k = g)))
  case atStart => exact ⟨0, n, 0, rfl, rfl, rfl, Nat.zero_le _, ⟨rfl⟩, ⟨by decide⟩, ⟨rfl⟩, HH2, ⟨pw_below_drewN HB.out _⟩, ⟨Kept.drewN HK.out _⟩⟩
  case round =>
    clear HH2 HB HK
    obtain ⟨k, m, x, rfl, rfl, rfl, hk, HM, HX, HP, HH, HB, HK⟩ := hrel
    by_cases hlt : k < w
    · have c3 : decide ((k : Int) < (w : Int)) = true := decide_eq_true (by omega)
      have c4 : decide (k < w) = true := decide_eq_true hlt
      obtain ⟨vb, hg, hBg, hR⟩ := HH.out
      obtain ⟨q, q2, eq, qb, ql, qc, hq⟩ := Kd.R_form hR (by have := HS.out; omega)
      subst eq
      have HG := Aside0.mk hg
      have HR := Aside0.mk hR
      clear hg hR hq
      have hms : m / 8 < b.length := by
        have := HS.out
        have := HM.out
        omega
      obtain ⟨x0, x1, f0, f1⟩ := two_cells HG.out
      obtain ⟨x2, f2⟩ := Kd.R_celln 0 HR.out ((m / 8 : Nat) : Int) (by omega) (by omega)
      rw [Int.toNat_natCast] at x2
      clear f2
      obtain ⟨s, i0, i1, i2, i3, i4, i5, i6, i7, i8, hs⟩ := put_facts m b.length hms (by have := HS.out; have := HM.out; have := HBB.out; omega)
      have HS7 := Aside0.mk hs
      clear hs hms
      go_upto_region 8 with (fail)
      refine start_ (n := 20) (S := fun w' => w'.cell? ⟨g, 0, none⟩ = some (.slice (some ⟨q, 0, none⟩) b.length q2) ∧ w'.cell? ⟨g, 1, none⟩ = some (.int .i64 (m : Int)) ∧ w'.cell? ⟨q, m / 8, none⟩ = some (.int .u8 (rdOf 0 b ((m / 8 : Nat) : Int)))) (ds := []) #[false, false, false, false, false, false, false, false, false, false, false, false, false, false, false, false, false, false, false, false] (by kernel_rfl) rfl rfl ⟨x0, x1, x2⟩ (fun hHeld => ?_)
      refine pure_ (i := 0) (N := some 23) (v := ?_) (a' := ?_) #[true, false, false, false, false, false, false, false, false, false, false, false, false, false, false, false, false, false, false, false] rfl rfl (by kernel_rfl) (fun _ _ _ h => h) (Or.inl ⟨by rfl, ?_⟩) ?_ ?_
      rotate_left
      · intro w'
        go_simp
        with_reducible rfl
      rotate_left
      · simp only [Act.put, List.setIfInBounds_toArray, List.set_cons_zero, List.set_cons_succ, i64_w, i32_w]
        rfl
      refine pure_ (i := 1) (N := some 24) (v := ?_) (a' := ?_) #[true, true, false, false, false, false, false, false, false, false, false, false, false, false, false, false, false, false, false, false] rfl rfl (by kernel_rfl) (fun _ _ _ h => h) (Or.inl ⟨by rfl, ?_⟩) ?_ ?_
      rotate_left
      · intro w'
        go_simp
        with_reducible rfl
      rotate_left
      · simp only [Act.put, List.setIfInBounds_toArray, List.set_cons_zero, List.set_cons_succ, i64_w, i32_w]
        rfl
      refine pure_ (i := 2) (N := some 25) (v := ?_) (a' := ?_) #[true, true, true, false, false, false, false, false, false, false, false, false, false, false, false, false, false, false, false, false] rfl rfl (by kernel_rfl) (fun _ _ _ h => h) (Or.inl ⟨by rfl, ?_⟩) ?_ ?_
      rotate_left
      · intro w'
        go_simp
        with_reducible rfl
      rotate_left
      · simp only [Act.put, List.setIfInBounds_toArray, List.set_cons_zero, List.set_cons_succ, i64_w, i32_w]
        rfl
      refine pure_ (i := 4) (N := some 27) (v := ?_) (a' := ?_) #[true, true, true, false, true, false, false, false, false, false, false, false, false, false, false, false, false, false, false, false] rfl rfl (by kernel_rfl) (fun _ _ _ h => h) (Or.inl ⟨by rfl, ?_⟩) ?_ ?_
      rotate_left
      · intro w'
        go_simp
        with_reducible rfl
      rotate_left
      · simp only [Act.put, List.setIfInBounds_toArray, List.set_cons_zero, List.set_cons_succ, i64_w, i32_w]
        rfl
      refine pure_ (i := 5) (N := some 28) (v := ?_) (a' := ?_) #[true, true, true, false, true, true, false, false, false, false, false, false, false, false, false, false, false, false, false, false] rfl rfl (by kernel_rfl) (fun _ _ _ h => h) (Or.inl ⟨by rfl, ?_⟩) ?_ ?_
      rotate_left
      · intro w'
        go_simp
        with_reducible rfl
      rotate_left
      · simp only [Act.put, List.setIfInBounds_toArray, List.set_cons_zero, List.set_cons_succ, i64_w, i32_w]
        rfl
      refine pure_ (i := 6) (N := some 29) (v := ?_) (a' := ?_) #[true, true, true, false, true, true, true, false, false, false, false, false, false, false, false, false, false, false, false, false] rfl rfl (by kernel_rfl) (fun _ _ _ h => h) (Or.inl ⟨by rfl, ?_⟩) ?_ ?_
      rotate_left
      · intro w'
        go_simp
        with_reducible rfl
      rotate_left
      · simp only [Act.put, List.setIfInBounds_toArray, List.set_cons_zero, List.set_cons_succ, i64_w, i32_w]
        rfl
      refine pure_ (i := 11) (N := some 34) (v := ?_) (a' := ?_) #[true, true, true, false, true, true, true, false, false, false, false, true, false, false, false, false, false, false, false, false] rfl rfl (by kernel_rfl) (fun _ _ _ h => h) (Or.inl ⟨by rfl, ?_⟩) ?_ ?_
      rotate_left
      · intro w'
        go_simp
        with_reducible rfl
      rotate_left
      · simp only [Act.put, List.setIfInBounds_toArray, List.set_cons_zero, List.set_cons_succ, i64_w, i32_w]
        rfl
      refine pure_ (i := 12) (N := some 35) (v := ?_) (a' := ?_) #[true, true, true, false, true, true, true, false, false, false, false, true, true, false, false, false, false, false, false, false] rfl rfl (by kernel_rfl) (fun _ _ _ h => h) (Or.inl ⟨by rfl, ?_⟩) ?_ ?_
      rotate_left
      · intro w'
        go_simp
        with_reducible rfl
      rotate_left
      · simp only [Act.put, List.setIfInBounds_toArray, List.set_cons_zero, List.set_cons_succ, i64_w, i32_w]
        rfl
      refine pure_ (i := 13) (N := some 36) (v := ?_) (a' := ?_) #[true, true, true, false, true, true, true, false, false, false, false, true, true, true, false, false, false, false, false, false] rfl rfl (by kernel_rfl) (fun _ _ _ h => h) (Or.inl ⟨by rfl, ?_⟩) ?_ ?_
      rotate_left
      · intro w'
        go_simp
        with_reducible rfl
      rotate_left
      · simp only [Act.put, List.setIfInBounds_toArray, List.set_cons_zero, List.set_cons_succ, i64_w, i32_w]
        rfl
      refine take_ (i := 3) (N := some 26) (v := ?_) (a' := ?_) #[true, true, true, true, true, true, true, false, false, false, false, true, true, true, false, false, false, false, false, false] rfl rfl (by kernel_rfl) (fun _ _ _ h => h) (Or.inl ⟨by rfl, ?_⟩) hHeld ?_ ?_
      rotate_left
      · rintro w' ⟨s0, s1, s2⟩
        go_simp
        with_reducible rfl
      rotate_left
      · simp only [Act.put, List.setIfInBounds_toArray, List.set_cons_zero, List.set_cons_succ, i64_w, i32_w]
        rfl
      refine take_ (i := 7) (N := some 30) (v := ?_) (a' := ?_) #[true, true, true, true, true, true, true, true, false, false, false, true, true, true, false, false, false, false, false, false] rfl rfl (by kernel_rfl) (fun _ _ _ h => h) (Or.inl ⟨by rfl, ?_⟩) hHeld ?_ ?_
      rotate_left
      · rintro w' ⟨s0, s1, s2⟩
        go_simp
        with_reducible rfl
      rotate_left
      · simp only [Act.put, List.setIfInBounds_toArray, List.set_cons_zero, List.set_cons_succ, i64_w, i32_w]
        rfl
      refine pure_ (i := 8) (N := some 31) (v := ?_) (a' := ?_) #[true, true, true, true, true, true, true, true, true, false, false, true, true, true, false, false, false, false, false, false] rfl rfl (by kernel_rfl) (fun _ _ _ h => h) (Or.inl ⟨by rfl, ?_⟩) ?_ ?_
      rotate_left
      · intro w'
        go_simp
        with_reducible rfl
      rotate_left
      · simp only [Act.put, List.setIfInBounds_toArray, List.set_cons_zero, List.set_cons_succ, i64_w, i32_w]
        rfl
      refine pure_ (i := 9) (N := some 32) (v := ?_) (a' := ?_) #[true, true, true, true, true, true, true, true, true, true, false, true, true, true, false, false, false, false, false, false] rfl rfl (by kernel_rfl) (fun _ _ _ h => h) (Or.inl ⟨by rfl, ?_⟩) ?_ ?_
      rotate_left
      · intro w'
        go_simp
        with_reducible rfl
      rotate_left
      · simp only [Act.put, List.setIfInBounds_toArray, List.set_cons_zero, List.set_cons_succ, i64_w, i32_w]
        rfl
      refine take_ (i := 10) (N := some 33) (v := ?_) (a' := ?_) #[true, true, true, true, true, true, true, true, true, true, true, true, true, true, false, false, false, false, false, false] rfl rfl (by kernel_rfl) (fun _ _ _ h => h) (Or.inl ⟨by rfl, ?_⟩) hHeld ?_ ?_
      rotate_left
      · rintro w' ⟨s0, s1, s2⟩
        go_simp
        with_reducible rfl
      rotate_left
      · simp only [Act.put, List.setIfInBounds_toArray, List.set_cons_zero, List.set_cons_succ, i64_w, i32_w]
        rfl
      refine take_ (i := 14) (N := some 37) (v := ?_) (a' := ?_) #[true, true, true, true, true, true, true, true, true, true, true, true, true, true, true, false, false, false, false, false] rfl rfl (by kernel_rfl) (fun _ _ _ h => h) (Or.inl ⟨by rfl, ?_⟩) hHeld ?_ ?_
      rotate_left
      · rintro w' ⟨s0, s1, s2⟩
        go_simp
        with_reducible rfl
      rotate_left
      · simp only [Act.put, List.setIfInBounds_toArray, List.set_cons_zero, List.set_cons_succ, i64_w, i32_w]
        rfl
      refine pure_ (i := 15) (N := some 38) (v := ?_) (a' := ?_) #[true, true, true, true, true, true, true, true, true, true, true, true, true, true, true, true, false, false, false, false] rfl rfl (by kernel_rfl) (fun _ _ _ h => h) (Or.inl ⟨by rfl, ?_⟩) ?_ ?_
      rotate_left
      · intro w'
        go_simp
        with_reducible rfl
      rotate_left
      · simp only [Act.put, List.setIfInBounds_toArray, List.set_cons_zero, List.set_cons_succ, i64_w, i32_w]
        rfl
      refine pure_ (i := 16) (N := some 39) (v := ?_) (a' := ?_) #[true, true, true, true, true, true, true, true, true, true, true, true, true, true, true, true, true, false, false, false] rfl rfl (by kernel_rfl) (fun _ _ _ h => h) (Or.inl ⟨by rfl, ?_⟩) ?_ ?_
      rotate_left
      · intro w'
        go_simp
        with_reducible rfl
      rotate_left
      · simp only [Act.put, List.setIfInBounds_toArray, List.set_cons_zero, List.set_cons_succ, i64_w, i32_w]
        rfl
      refine pure_ (i := 17) (N := some 40) (v := ?_) (a' := ?_) #[true, true, true, true, true, true, true, true, true, true, true, true, true, true, true, true, true, true, false, false] rfl rfl (by kernel_rfl) (fun _ _ _ h => h) (Or.inl ⟨by rfl, ?_⟩) ?_ ?_
      rotate_left
      · intro w'
        go_simp
        with_reducible rfl
      rotate_left
      · simp only [Act.put, List.setIfInBounds_toArray, List.set_cons_zero, List.set_cons_succ, i64_w, i32_w]
        rfl
      refine pure_ (i := 18) (N := some 41) (v := ?_) (a' := ?_) #[true, true, true, true, true, true, true, true, true, true, true, true, true, true, true, true, true, true, true, false] rfl rfl (by kernel_rfl) (fun _ _ _ h => h) (Or.inl ⟨by rfl, ?_⟩) ?_ ?_
      rotate_left
      · intro w'
        go_simp
        with_reducible rfl
      rotate_left
      · simp only [Act.put, List.setIfInBounds_toArray, List.set_cons_zero, List.set_cons_succ, i64_w, i32_w]
        rfl
      refine pure_ (i := 19) (N := some 7) (v := ?_) (a' := ?_) #[true, true, true, true, true, true, true, true, true, true, true, true, true, true, true, true, true, true, true, true] rfl rfl (by kernel_rfl) (fun _ _ _ h => h) (Or.inl ⟨by rfl, ?_⟩) ?_ ?_
      rotate_left
      · intro w'
        go_simp
        with_reducible rfl
      rotate_left
      · simp only [Act.put, List.setIfInBounds_toArray, List.set_cons_zero, List.set_cons_succ, i64_w, i32_w]
        rfl
      refine done_ (by kernel_rfl) ?_

      generalize hbit : Go.bits .and .u8 (rdOf 0 b ((m : Int) / 8) / 2 ^ s) 1 = bit
      have HBIT := Aside0.mk hbit
      clear hbit
      go_wp2
      go_roundg (w - (k + 1))
      case measure => exact (by clear i0 i1 i2 i3 i4 i5 i6 i7 i8; omega)
      case rel =>
        obtain ⟨e1, e2, e3⟩ := get_val b m k x bit s HX.out (by have := HW.out; clear i0 i1 i2 i3 i4 i5 i6 i7 i8; omega) (HBY.out _ (rd_mem b ((m / 8 : Nat) : Int) (by clear i3 i4 i5 i6; omega) (by clear i3 i4 i5 i6; omega))) HS7.out HBIT.out
        have e4 := next_k k (by have := HW.out; clear i0 i1 i2 i3 i4 i5 i6 i7 i8 e1; omega)
        clear i0 i1 i2 i3 i4 i5 i6 i7 i8
        refine ⟨k + 1, m + 1, x * 2 + bitAt b m, by rw [e1], by rw [e4], rfl, hlt, ⟨by rw [HM.out]; rfl⟩, ⟨e2, e3⟩, ⟨?_⟩, ⟨?_⟩, ⟨below_drew1 (below_set HB.out hBg)⟩, ⟨Kept.drew (Kept.setCell HK.out (.inl rfl) _)⟩⟩
        · rw [← HP.out, show w - k = (w - (k + 1)) + 1 from by clear e1 e4; omega, getBits]
        · exact ⟨_, blk_put HG.out 1 _ rfl, hBg, Kd.R_far HR.out (p := ⟨g, 1, none⟩) (fun k hk => hk.1) _⟩
    · have c3 : decide ((k : Int) < (w : Int)) = false := decide_eq_false (by omega)
      have c4 : decide (k < w) = false := decide_eq_false hlt
      go_wp2
      go_ret2
      have hp := HP.out
      rw [show w - k = 0 by omega] at hp
      simp only [getBits] at hp
      have hm := HM.out
      rw [show k = w by omega] at hm
      subst hm
      rw [← hp]
      exact ⟨rfl, HH.out, HB.out, HK.out⟩
theorem end_facts (n l : Nat) (h0 : 0 < n) (hl : l < 8) (hb : n < 2097152) : (0 : Int) ≤ (n : Int) - 1 ∧ wrap64 ((n : Int) - 1) = ((n - 1 : Nat) : Int) ∧ (((n - 1 : Nat) : Int)).toNat = n - 1 ∧ (0 : Int) ≤ ((n - 1 : Nat) : Int) ∧ wrap64 (8 - (l : Int)) = ((8 - l : Nat) : Int) := by
  refine ⟨by omega, ?_, by omega, by omega, ?_⟩
  · rw [show (n : Int) - 1 = ((n - 1 : Nat) : Int) by omega]
    exact wrap64_in (by omega) (by omega)
  · rw [show 8 - (l : Int) = ((8 - l : Nat) : Int) by omega]
    exact wrap64_in (by omega) (by omega)
/-- What End tells: 0 where nothing is left but a byte's zero bits, else 3. -/
def endOf (b : List Int) (n : Nat) : Int := if 8 ≤ 8 * b.length - n then 3 else if 0 < 8 * b.length - n then (if rd b ((b.length : Int) - 1) * 2 ^ (8 - (8 * b.length - n)) % 256 = 0 then 0 else 3) else 0
theorem End_good (W : World) (B : Nat) (ok : Nat → Prop) (g : Nat) (b : List Int) (n : Nat) (h : Rd W B ok g b n) (hb : b.length < 2097152) (hn : n ≤ 8 * b.length) : Calls Try.prog 21 #[.pointer (some ⟨g, 0, none⟩)] W fun e W' => e = .returned (.int .i64 (endOf b n)) ∧ Drawn0 W W' := by
  have HH := Aside0.mk h
  have HBB := Aside0.mk hb
  have HN := Aside0.mk hn
  obtain ⟨l, hl⟩ : ∃ l, l = 8 * b.length - n := ⟨_, rfl⟩
  by_cases c8 : 8 ≤ l
  · have e : endOf b n = 3 := by
      unfold endOf
      rw [if_pos (by omega)]
    rw [e]
    have c1 : decide (8 ≤ ((8 * b.length - n : Nat) : Int)) = true := decide_eq_true (by omega)
    have c2 : decide (8 ≤ 8 * b.length - n) = true := decide_eq_true (by omega)
    clear h hb hn hl e c8
    go_enter Try.func21, Try.ntmps21
    go_wp2_with (go_at_call 20; refine (Left_good W B ok g b n HH.out HBB.out HN.out).mono ?_; rintro e w1 ⟨rfl, ⟨nd2, rfl⟩⟩)
    repeat (go_quiet (fail); try go_wp2)
    go_ret
    exact ⟨rfl, by repeat (first | exact Drawn0.refl _ | apply Drawn0.step)⟩
  · by_cases c0 : 0 < l
    · obtain ⟨vb, hg, hBg, hR⟩ := h
      obtain ⟨q, q2, eq, qb, ql, qc, hq⟩ := Kd.R_form hR (by omega)
      subst eq
      obtain ⟨x0, x1, f0, f1⟩ := two_cells hg
      obtain ⟨x2, f2⟩ := Kd.R_celln 0 hR ((b.length - 1 : Nat) : Int) (by omega) (by omega)
      rw [Int.toNat_natCast] at x2
      obtain ⟨i0, i1, i2, i3, i4⟩ := end_facts b.length l (by omega) (by omega) hb
      have hcall := Left_good W B ok g b n HH.out hb hn
      rw [← hl] at hcall
      have HCALL := Aside0.mk hcall
      have e : endOf b n = if rdOf 0 b ((b.length - 1 : Nat) : Int) * 2 ^ (8 - l) % 256 = 0 then 0 else 3 := by
        unfold endOf
        rw [if_neg (by omega), if_pos (by omega), ← hl, show ((b.length - 1 : Nat) : Int) = (b.length : Int) - 1 by omega]
        rfl
      rw [e]
      have c1 : decide (8 ≤ (l : Int)) = false := decide_eq_false (by omega)
      have c2 : decide (8 ≤ l) = false := decide_eq_false (by omega)
      have c3 : decide (0 < (l : Int)) = true := decide_eq_true (by omega)
      have c4 : decide (0 < l) = true := decide_eq_true (by omega)
      obtain ⟨s, hs⟩ : ∃ s, s = 8 - l := ⟨_, rfl⟩
      rw [← hs] at i4 ⊢
      have i5 : s ≤ 8 := by omega
      have i6 : (s : Int) ≤ 8 := by omega
      obtain ⟨val, hval⟩ : ∃ val, rdOf 0 b ((b.length - 1 : Nat) : Int) = val := ⟨_, rfl⟩
      rw [hval] at x2 ⊢
      obtain ⟨L, hL⟩ : ∃ L : Nat, L = b.length - 1 := ⟨_, rfl⟩
      rw [← hL] at x2 i1 i2 i3
      have i7 : L < b.length := by omega
      have i8 : (L : Int) < (b.length : Int) := by omega
      by_cases hz : val * 2 ^ s % 256 = 0
      · have hz1 : (IntKind.u8.wrap (val * 2 ^ s) != 0) = false := by
          rw [IntKind.wrap_u8]
          simp [hz]
        rw [if_pos hz]
        clear hg hR hb hn hl e c8 c0 hq hs hval hL hz f2 f0 f1 HH HBB HN hcall i0
        go_enter Try.func21, Try.ntmps21
        go_wp2_with (go_at_call 20; refine HCALL.out.mono ?_; rintro e w1 ⟨rfl, ⟨nd2, rfl⟩⟩)
        refine start_ (n := 24) (S := fun w' => w'.cell? ⟨g, 0, none⟩ = some (.slice (some ⟨q, 0, none⟩) b.length q2) ∧ w'.cell? ⟨q, L, none⟩ = some (.int .u8 val)) (ds := []) #[false, false, false, false, false, false, false, false, false, false, false, false, false, false, false, false, false, false, false, false, false, false, false, false] (by kernel_rfl) rfl rfl ⟨x0, x2⟩ (fun hHeld => ?_)
        refine pure_ (i := 0) (N := some 8) (v := ?_) (a' := ?_) #[true, false, false, false, false, false, false, false, false, false, false, false, false, false, false, false, false, false, false, false, false, false, false, false] rfl rfl (by kernel_rfl) (fun _ _ _ h => h) (Or.inl ⟨by rfl, ?_⟩) ?_ ?_
        rotate_left
        · intro w'
          go_simp
          with_reducible rfl
        rotate_left
        · simp only [Act.put, List.setIfInBounds_toArray, List.set_cons_zero, List.set_cons_succ, i64_w, i32_w]
          rfl
        refine pure_ (i := 1) (N := some 9) (v := ?_) (a' := ?_) #[true, true, false, false, false, false, false, false, false, false, false, false, false, false, false, false, false, false, false, false, false, false, false, false] rfl rfl (by kernel_rfl) (fun _ _ _ h => h) (Or.inl ⟨by rfl, ?_⟩) ?_ ?_
        rotate_left
        · intro w'
          go_simp
          with_reducible rfl
        rotate_left
        · simp only [Act.put, List.setIfInBounds_toArray, List.set_cons_zero, List.set_cons_succ, i64_w, i32_w]
          rfl
        refine pure_ (i := 2) (N := some 10) (v := ?_) (a' := ?_) #[true, true, true, false, false, false, false, false, false, false, false, false, false, false, false, false, false, false, false, false, false, false, false, false] rfl rfl (by kernel_rfl) (fun _ _ _ h => h) (Or.inl ⟨by rfl, ?_⟩) ?_ ?_
        rotate_left
        · intro w'
          go_simp
          with_reducible rfl
        rotate_left
        · simp only [Act.put, List.setIfInBounds_toArray, List.set_cons_zero, List.set_cons_succ, i64_w, i32_w]
          rfl
        refine pure_ (i := 3) (N := some 11) (v := ?_) (a' := ?_) #[true, true, true, true, false, false, false, false, false, false, false, false, false, false, false, false, false, false, false, false, false, false, false, false] rfl rfl (by kernel_rfl) (fun _ _ _ h => h) (Or.inl ⟨by rfl, ?_⟩) ?_ ?_
        rotate_left
        · intro w'
          go_simp
          with_reducible rfl
        rotate_left
        · simp only [Act.put, List.setIfInBounds_toArray, List.set_cons_zero, List.set_cons_succ, i64_w, i32_w]
          rfl
        refine pure_ (i := 4) (N := some 12) (v := ?_) (a' := ?_) #[true, true, true, true, true, false, false, false, false, false, false, false, false, false, false, false, false, false, false, false, false, false, false, false] rfl rfl (by kernel_rfl) (fun _ _ _ h => h) (Or.inl ⟨by rfl, ?_⟩) ?_ ?_
        rotate_left
        · intro w'
          go_simp
          with_reducible rfl
        rotate_left
        · simp only [Act.put, List.setIfInBounds_toArray, List.set_cons_zero, List.set_cons_succ, i64_w, i32_w]
          rfl
        refine pure_ (i := 5) (N := some 13) (v := ?_) (a' := ?_) #[true, true, true, true, true, true, false, false, false, false, false, false, false, false, false, false, false, false, false, false, false, false, false, false] rfl rfl (by kernel_rfl) (fun _ _ _ h => h) (Or.inl ⟨by rfl, ?_⟩) ?_ ?_
        rotate_left
        · intro w'
          go_simp
          with_reducible rfl
        rotate_left
        · simp only [Act.put, List.setIfInBounds_toArray, List.set_cons_zero, List.set_cons_succ, i64_w, i32_w]
          rfl
        refine pure_ (i := 6) (N := some 14) (v := ?_) (a' := ?_) #[true, true, true, true, true, true, true, false, false, false, false, false, false, false, false, false, false, false, false, false, false, false, false, false] rfl rfl (by kernel_rfl) (fun _ _ _ h => h) (Or.inl ⟨by rfl, ?_⟩) ?_ ?_
        rotate_left
        · intro w'
          go_simp
          with_reducible rfl
        rotate_left
        · simp only [Act.put, List.setIfInBounds_toArray, List.set_cons_zero, List.set_cons_succ, i64_w, i32_w]
          rfl
        refine pure_ (i := 7) (N := some 15) (v := ?_) (a' := ?_) #[true, true, true, true, true, true, true, true, false, false, false, false, false, false, false, false, false, false, false, false, false, false, false, false] rfl rfl (by kernel_rfl) (fun _ _ _ h => h) (Or.inl ⟨by rfl, ?_⟩) ?_ ?_
        rotate_left
        · intro w'
          go_simp
          with_reducible rfl
        rotate_left
        · simp only [Act.put, List.setIfInBounds_toArray, List.set_cons_zero, List.set_cons_succ, i64_w, i32_w]
          rfl
        refine pure_ (i := 8) (N := some 16) (v := ?_) (a' := ?_) #[true, true, true, true, true, true, true, true, true, false, false, false, false, false, false, false, false, false, false, false, false, false, false, false] rfl rfl (by kernel_rfl) (fun _ _ _ h => h) (Or.inl ⟨by rfl, ?_⟩) ?_ ?_
        rotate_left
        · intro w'
          go_simp
          with_reducible rfl
        rotate_left
        · simp only [Act.put, List.setIfInBounds_toArray, List.set_cons_zero, List.set_cons_succ, i64_w, i32_w]
          rfl
        refine pure_ (i := 10) (N := some 18) (v := ?_) (a' := ?_) #[true, true, true, true, true, true, true, true, true, false, true, false, false, false, false, false, false, false, false, false, false, false, false, false] rfl rfl (by kernel_rfl) (fun _ _ _ h => h) (Or.inl ⟨by rfl, ?_⟩) ?_ ?_
        rotate_left
        · intro w'
          go_simp
          with_reducible rfl
        rotate_left
        · simp only [Act.put, List.setIfInBounds_toArray, List.set_cons_zero, List.set_cons_succ, i64_w, i32_w]
          rfl
        refine pure_ (i := 11) (N := some 19) (v := ?_) (a' := ?_) #[true, true, true, true, true, true, true, true, true, false, true, true, false, false, false, false, false, false, false, false, false, false, false, false] rfl rfl (by kernel_rfl) (fun _ _ _ h => h) (Or.inl ⟨by rfl, ?_⟩) ?_ ?_
        rotate_left
        · intro w'
          go_simp
          with_reducible rfl
        rotate_left
        · simp only [Act.put, List.setIfInBounds_toArray, List.set_cons_zero, List.set_cons_succ, i64_w, i32_w]
          rfl
        refine pure_ (i := 12) (N := some 20) (v := ?_) (a' := ?_) #[true, true, true, true, true, true, true, true, true, false, true, true, true, false, false, false, false, false, false, false, false, false, false, false] rfl rfl (by kernel_rfl) (fun _ _ _ h => h) (Or.inl ⟨by rfl, ?_⟩) ?_ ?_
        rotate_left
        · intro w'
          go_simp
          with_reducible rfl
        rotate_left
        · simp only [Act.put, List.setIfInBounds_toArray, List.set_cons_zero, List.set_cons_succ, i64_w, i32_w]
          rfl
        refine pure_ (i := 18) (N := some 26) (v := ?_) (a' := ?_) #[true, true, true, true, true, true, true, true, true, false, true, true, true, false, false, false, false, false, true, false, false, false, false, false] rfl rfl (by kernel_rfl) (fun _ _ _ h => h) (Or.inl ⟨by rfl, ?_⟩) ?_ ?_
        rotate_left
        · intro w'
          go_simp
          with_reducible rfl
        rotate_left
        · simp only [Act.put, List.setIfInBounds_toArray, List.set_cons_zero, List.set_cons_succ, i64_w, i32_w]
          rfl
        refine pure_ (i := 19) (N := some 27) (v := ?_) (a' := ?_) #[true, true, true, true, true, true, true, true, true, false, true, true, true, false, false, false, false, false, true, true, false, false, false, false] rfl rfl (by kernel_rfl) (fun _ _ _ h => h) (Or.inl ⟨by rfl, ?_⟩) ?_ ?_
        rotate_left
        · intro w'
          go_simp
          with_reducible rfl
        rotate_left
        · simp only [Act.put, List.setIfInBounds_toArray, List.set_cons_zero, List.set_cons_succ, i64_w, i32_w]
          rfl
        refine take_ (i := 9) (N := some 17) (v := ?_) (a' := ?_) #[true, true, true, true, true, true, true, true, true, true, true, true, true, false, false, false, false, false, true, true, false, false, false, false] rfl rfl (by kernel_rfl) (fun _ _ _ h => h) (Or.inl ⟨by rfl, ?_⟩) hHeld ?_ ?_
        rotate_left
        · rintro w' ⟨s0, s1⟩
          go_simp
          with_reducible rfl
        rotate_left
        · simp only [Act.put, List.setIfInBounds_toArray, List.set_cons_zero, List.set_cons_succ, i64_w, i32_w]
          rfl
        refine take_ (i := 13) (N := some 21) (v := ?_) (a' := ?_) #[true, true, true, true, true, true, true, true, true, true, true, true, true, true, false, false, false, false, true, true, false, false, false, false] rfl rfl (by kernel_rfl) (fun _ _ _ h => h) (Or.inl ⟨by rfl, ?_⟩) hHeld ?_ ?_
        rotate_left
        · rintro w' ⟨s0, s1⟩
          go_simp
          with_reducible rfl
        rotate_left
        · simp only [Act.put, List.setIfInBounds_toArray, List.set_cons_zero, List.set_cons_succ, i64_w, i32_w]
          rfl
        refine pure_ (i := 14) (N := some 22) (v := ?_) (a' := ?_) #[true, true, true, true, true, true, true, true, true, true, true, true, true, true, true, false, false, false, true, true, false, false, false, false] rfl rfl (by kernel_rfl) (fun _ _ _ h => h) (Or.inl ⟨by rfl, ?_⟩) ?_ ?_
        rotate_left
        · intro w'
          go_simp
          with_reducible rfl
        rotate_left
        · simp only [Act.put, List.setIfInBounds_toArray, List.set_cons_zero, List.set_cons_succ, i64_w, i32_w]
          rfl
        refine pure_ (i := 15) (N := some 23) (v := ?_) (a' := ?_) #[true, true, true, true, true, true, true, true, true, true, true, true, true, true, true, true, false, false, true, true, false, false, false, false] rfl rfl (by kernel_rfl) (fun _ _ _ h => h) (Or.inl ⟨by rfl, ?_⟩) ?_ ?_
        rotate_left
        · intro w'
          go_simp
          with_reducible rfl
        rotate_left
        · simp only [Act.put, List.setIfInBounds_toArray, List.set_cons_zero, List.set_cons_succ, i64_w, i32_w]
          rfl
        refine pure_ (i := 16) (N := some 24) (v := ?_) (a' := ?_) #[true, true, true, true, true, true, true, true, true, true, true, true, true, true, true, true, true, false, true, true, false, false, false, false] rfl rfl (by kernel_rfl) (fun _ _ _ h => h) (Or.inl ⟨by rfl, ?_⟩) ?_ ?_
        rotate_left
        · intro w'
          go_simp
          with_reducible rfl
        rotate_left
        · simp only [Act.put, List.setIfInBounds_toArray, List.set_cons_zero, List.set_cons_succ, i64_w, i32_w]
          rfl
        refine take_ (i := 17) (N := some 25) (v := ?_) (a' := ?_) #[true, true, true, true, true, true, true, true, true, true, true, true, true, true, true, true, true, true, true, true, false, false, false, false] rfl rfl (by kernel_rfl) (fun _ _ _ h => h) (Or.inl ⟨by rfl, ?_⟩) hHeld ?_ ?_
        rotate_left
        · rintro w' ⟨s0, s1⟩
          go_simp
          with_reducible rfl
        rotate_left
        · simp only [Act.put, List.setIfInBounds_toArray, List.set_cons_zero, List.set_cons_succ, i64_w, i32_w]
          rfl
        refine pure_ (i := 20) (N := some 28) (v := ?_) (a' := ?_) #[true, true, true, true, true, true, true, true, true, true, true, true, true, true, true, true, true, true, true, true, true, false, false, false] rfl rfl (by kernel_rfl) (fun _ _ _ h => h) (Or.inl ⟨by rfl, ?_⟩) ?_ ?_
        rotate_left
        · intro w'
          go_simp
          with_reducible rfl
        rotate_left
        · simp only [Act.put, List.setIfInBounds_toArray, List.set_cons_zero, List.set_cons_succ, i64_w, i32_w]
          rfl
        refine pure_ (i := 21) (N := some 29) (v := ?_) (a' := ?_) #[true, true, true, true, true, true, true, true, true, true, true, true, true, true, true, true, true, true, true, true, true, true, false, false] rfl rfl (by kernel_rfl) (fun _ _ _ h => h) (Or.inl ⟨by rfl, ?_⟩) ?_ ?_
        rotate_left
        · intro w'
          go_simp
          with_reducible rfl
        rotate_left
        · simp only [Act.put, List.setIfInBounds_toArray, List.set_cons_zero, List.set_cons_succ, i64_w, i32_w]
          rfl
        refine pure_ (i := 22) (N := some 30) (v := ?_) (a' := ?_) #[true, true, true, true, true, true, true, true, true, true, true, true, true, true, true, true, true, true, true, true, true, true, true, false] rfl rfl (by kernel_rfl) (fun _ _ _ h => h) (Or.inl ⟨by rfl, ?_⟩) ?_ ?_
        rotate_left
        · intro w'
          go_simp
          with_reducible rfl
        rotate_left
        · simp only [Act.put, List.setIfInBounds_toArray, List.set_cons_zero, List.set_cons_succ, i64_w, i32_w]
          rfl
        refine pure_ (i := 23) (N := some 31) (v := ?_) (a' := ?_) #[true, true, true, true, true, true, true, true, true, true, true, true, true, true, true, true, true, true, true, true, true, true, true, true] rfl rfl (by kernel_rfl) (fun _ _ _ h => h) (Or.inl ⟨by rfl, ?_⟩) ?_ ?_
        rotate_left
        · intro w'
          go_simp
          with_reducible rfl
        rotate_left
        · simp only [Act.put, List.setIfInBounds_toArray, List.set_cons_zero, List.set_cons_succ, i64_w, i32_w]
          rfl
        refine done_ (by kernel_rfl) ?_

        go_wp2
        go_ret
        exact ⟨rfl, by repeat (first | exact Drawn0.refl _ | apply Drawn0.step)⟩
      · have hz1 : (IntKind.u8.wrap (val * 2 ^ s) != 0) = true := by
          rw [IntKind.wrap_u8]
          simp [hz]
        rw [if_neg hz]
        clear hg hR hb hn hl e c8 c0 hq hs hval hL hz f2 f0 f1 HH HBB HN hcall i0
        go_enter Try.func21, Try.ntmps21
        go_wp2_with (go_at_call 20; refine HCALL.out.mono ?_; rintro e w1 ⟨rfl, ⟨nd2, rfl⟩⟩)
        refine start_ (n := 24) (S := fun w' => w'.cell? ⟨g, 0, none⟩ = some (.slice (some ⟨q, 0, none⟩) b.length q2) ∧ w'.cell? ⟨q, L, none⟩ = some (.int .u8 val)) (ds := []) #[false, false, false, false, false, false, false, false, false, false, false, false, false, false, false, false, false, false, false, false, false, false, false, false] (by kernel_rfl) rfl rfl ⟨x0, x2⟩ (fun hHeld => ?_)
        refine pure_ (i := 0) (N := some 8) (v := ?_) (a' := ?_) #[true, false, false, false, false, false, false, false, false, false, false, false, false, false, false, false, false, false, false, false, false, false, false, false] rfl rfl (by kernel_rfl) (fun _ _ _ h => h) (Or.inl ⟨by rfl, ?_⟩) ?_ ?_
        rotate_left
        · intro w'
          go_simp
          with_reducible rfl
        rotate_left
        · simp only [Act.put, List.setIfInBounds_toArray, List.set_cons_zero, List.set_cons_succ, i64_w, i32_w]
          rfl
        refine pure_ (i := 1) (N := some 9) (v := ?_) (a' := ?_) #[true, true, false, false, false, false, false, false, false, false, false, false, false, false, false, false, false, false, false, false, false, false, false, false] rfl rfl (by kernel_rfl) (fun _ _ _ h => h) (Or.inl ⟨by rfl, ?_⟩) ?_ ?_
        rotate_left
        · intro w'
          go_simp
          with_reducible rfl
        rotate_left
        · simp only [Act.put, List.setIfInBounds_toArray, List.set_cons_zero, List.set_cons_succ, i64_w, i32_w]
          rfl
        refine pure_ (i := 2) (N := some 10) (v := ?_) (a' := ?_) #[true, true, true, false, false, false, false, false, false, false, false, false, false, false, false, false, false, false, false, false, false, false, false, false] rfl rfl (by kernel_rfl) (fun _ _ _ h => h) (Or.inl ⟨by rfl, ?_⟩) ?_ ?_
        rotate_left
        · intro w'
          go_simp
          with_reducible rfl
        rotate_left
        · simp only [Act.put, List.setIfInBounds_toArray, List.set_cons_zero, List.set_cons_succ, i64_w, i32_w]
          rfl
        refine pure_ (i := 3) (N := some 11) (v := ?_) (a' := ?_) #[true, true, true, true, false, false, false, false, false, false, false, false, false, false, false, false, false, false, false, false, false, false, false, false] rfl rfl (by kernel_rfl) (fun _ _ _ h => h) (Or.inl ⟨by rfl, ?_⟩) ?_ ?_
        rotate_left
        · intro w'
          go_simp
          with_reducible rfl
        rotate_left
        · simp only [Act.put, List.setIfInBounds_toArray, List.set_cons_zero, List.set_cons_succ, i64_w, i32_w]
          rfl
        refine pure_ (i := 4) (N := some 12) (v := ?_) (a' := ?_) #[true, true, true, true, true, false, false, false, false, false, false, false, false, false, false, false, false, false, false, false, false, false, false, false] rfl rfl (by kernel_rfl) (fun _ _ _ h => h) (Or.inl ⟨by rfl, ?_⟩) ?_ ?_
        rotate_left
        · intro w'
          go_simp
          with_reducible rfl
        rotate_left
        · simp only [Act.put, List.setIfInBounds_toArray, List.set_cons_zero, List.set_cons_succ, i64_w, i32_w]
          rfl
        refine pure_ (i := 5) (N := some 13) (v := ?_) (a' := ?_) #[true, true, true, true, true, true, false, false, false, false, false, false, false, false, false, false, false, false, false, false, false, false, false, false] rfl rfl (by kernel_rfl) (fun _ _ _ h => h) (Or.inl ⟨by rfl, ?_⟩) ?_ ?_
        rotate_left
        · intro w'
          go_simp
          with_reducible rfl
        rotate_left
        · simp only [Act.put, List.setIfInBounds_toArray, List.set_cons_zero, List.set_cons_succ, i64_w, i32_w]
          rfl
        refine pure_ (i := 6) (N := some 14) (v := ?_) (a' := ?_) #[true, true, true, true, true, true, true, false, false, false, false, false, false, false, false, false, false, false, false, false, false, false, false, false] rfl rfl (by kernel_rfl) (fun _ _ _ h => h) (Or.inl ⟨by rfl, ?_⟩) ?_ ?_
        rotate_left
        · intro w'
          go_simp
          with_reducible rfl
        rotate_left
        · simp only [Act.put, List.setIfInBounds_toArray, List.set_cons_zero, List.set_cons_succ, i64_w, i32_w]
          rfl
        refine pure_ (i := 7) (N := some 15) (v := ?_) (a' := ?_) #[true, true, true, true, true, true, true, true, false, false, false, false, false, false, false, false, false, false, false, false, false, false, false, false] rfl rfl (by kernel_rfl) (fun _ _ _ h => h) (Or.inl ⟨by rfl, ?_⟩) ?_ ?_
        rotate_left
        · intro w'
          go_simp
          with_reducible rfl
        rotate_left
        · simp only [Act.put, List.setIfInBounds_toArray, List.set_cons_zero, List.set_cons_succ, i64_w, i32_w]
          rfl
        refine pure_ (i := 8) (N := some 16) (v := ?_) (a' := ?_) #[true, true, true, true, true, true, true, true, true, false, false, false, false, false, false, false, false, false, false, false, false, false, false, false] rfl rfl (by kernel_rfl) (fun _ _ _ h => h) (Or.inl ⟨by rfl, ?_⟩) ?_ ?_
        rotate_left
        · intro w'
          go_simp
          with_reducible rfl
        rotate_left
        · simp only [Act.put, List.setIfInBounds_toArray, List.set_cons_zero, List.set_cons_succ, i64_w, i32_w]
          rfl
        refine pure_ (i := 10) (N := some 18) (v := ?_) (a' := ?_) #[true, true, true, true, true, true, true, true, true, false, true, false, false, false, false, false, false, false, false, false, false, false, false, false] rfl rfl (by kernel_rfl) (fun _ _ _ h => h) (Or.inl ⟨by rfl, ?_⟩) ?_ ?_
        rotate_left
        · intro w'
          go_simp
          with_reducible rfl
        rotate_left
        · simp only [Act.put, List.setIfInBounds_toArray, List.set_cons_zero, List.set_cons_succ, i64_w, i32_w]
          rfl
        refine pure_ (i := 11) (N := some 19) (v := ?_) (a' := ?_) #[true, true, true, true, true, true, true, true, true, false, true, true, false, false, false, false, false, false, false, false, false, false, false, false] rfl rfl (by kernel_rfl) (fun _ _ _ h => h) (Or.inl ⟨by rfl, ?_⟩) ?_ ?_
        rotate_left
        · intro w'
          go_simp
          with_reducible rfl
        rotate_left
        · simp only [Act.put, List.setIfInBounds_toArray, List.set_cons_zero, List.set_cons_succ, i64_w, i32_w]
          rfl
        refine pure_ (i := 12) (N := some 20) (v := ?_) (a' := ?_) #[true, true, true, true, true, true, true, true, true, false, true, true, true, false, false, false, false, false, false, false, false, false, false, false] rfl rfl (by kernel_rfl) (fun _ _ _ h => h) (Or.inl ⟨by rfl, ?_⟩) ?_ ?_
        rotate_left
        · intro w'
          go_simp
          with_reducible rfl
        rotate_left
        · simp only [Act.put, List.setIfInBounds_toArray, List.set_cons_zero, List.set_cons_succ, i64_w, i32_w]
          rfl
        refine pure_ (i := 18) (N := some 26) (v := ?_) (a' := ?_) #[true, true, true, true, true, true, true, true, true, false, true, true, true, false, false, false, false, false, true, false, false, false, false, false] rfl rfl (by kernel_rfl) (fun _ _ _ h => h) (Or.inl ⟨by rfl, ?_⟩) ?_ ?_
        rotate_left
        · intro w'
          go_simp
          with_reducible rfl
        rotate_left
        · simp only [Act.put, List.setIfInBounds_toArray, List.set_cons_zero, List.set_cons_succ, i64_w, i32_w]
          rfl
        refine pure_ (i := 19) (N := some 27) (v := ?_) (a' := ?_) #[true, true, true, true, true, true, true, true, true, false, true, true, true, false, false, false, false, false, true, true, false, false, false, false] rfl rfl (by kernel_rfl) (fun _ _ _ h => h) (Or.inl ⟨by rfl, ?_⟩) ?_ ?_
        rotate_left
        · intro w'
          go_simp
          with_reducible rfl
        rotate_left
        · simp only [Act.put, List.setIfInBounds_toArray, List.set_cons_zero, List.set_cons_succ, i64_w, i32_w]
          rfl
        refine take_ (i := 9) (N := some 17) (v := ?_) (a' := ?_) #[true, true, true, true, true, true, true, true, true, true, true, true, true, false, false, false, false, false, true, true, false, false, false, false] rfl rfl (by kernel_rfl) (fun _ _ _ h => h) (Or.inl ⟨by rfl, ?_⟩) hHeld ?_ ?_
        rotate_left
        · rintro w' ⟨s0, s1⟩
          go_simp
          with_reducible rfl
        rotate_left
        · simp only [Act.put, List.setIfInBounds_toArray, List.set_cons_zero, List.set_cons_succ, i64_w, i32_w]
          rfl
        refine take_ (i := 13) (N := some 21) (v := ?_) (a' := ?_) #[true, true, true, true, true, true, true, true, true, true, true, true, true, true, false, false, false, false, true, true, false, false, false, false] rfl rfl (by kernel_rfl) (fun _ _ _ h => h) (Or.inl ⟨by rfl, ?_⟩) hHeld ?_ ?_
        rotate_left
        · rintro w' ⟨s0, s1⟩
          go_simp
          with_reducible rfl
        rotate_left
        · simp only [Act.put, List.setIfInBounds_toArray, List.set_cons_zero, List.set_cons_succ, i64_w, i32_w]
          rfl
        refine pure_ (i := 14) (N := some 22) (v := ?_) (a' := ?_) #[true, true, true, true, true, true, true, true, true, true, true, true, true, true, true, false, false, false, true, true, false, false, false, false] rfl rfl (by kernel_rfl) (fun _ _ _ h => h) (Or.inl ⟨by rfl, ?_⟩) ?_ ?_
        rotate_left
        · intro w'
          go_simp
          with_reducible rfl
        rotate_left
        · simp only [Act.put, List.setIfInBounds_toArray, List.set_cons_zero, List.set_cons_succ, i64_w, i32_w]
          rfl
        refine pure_ (i := 15) (N := some 23) (v := ?_) (a' := ?_) #[true, true, true, true, true, true, true, true, true, true, true, true, true, true, true, true, false, false, true, true, false, false, false, false] rfl rfl (by kernel_rfl) (fun _ _ _ h => h) (Or.inl ⟨by rfl, ?_⟩) ?_ ?_
        rotate_left
        · intro w'
          go_simp
          with_reducible rfl
        rotate_left
        · simp only [Act.put, List.setIfInBounds_toArray, List.set_cons_zero, List.set_cons_succ, i64_w, i32_w]
          rfl
        refine pure_ (i := 16) (N := some 24) (v := ?_) (a' := ?_) #[true, true, true, true, true, true, true, true, true, true, true, true, true, true, true, true, true, false, true, true, false, false, false, false] rfl rfl (by kernel_rfl) (fun _ _ _ h => h) (Or.inl ⟨by rfl, ?_⟩) ?_ ?_
        rotate_left
        · intro w'
          go_simp
          with_reducible rfl
        rotate_left
        · simp only [Act.put, List.setIfInBounds_toArray, List.set_cons_zero, List.set_cons_succ, i64_w, i32_w]
          rfl
        refine take_ (i := 17) (N := some 25) (v := ?_) (a' := ?_) #[true, true, true, true, true, true, true, true, true, true, true, true, true, true, true, true, true, true, true, true, false, false, false, false] rfl rfl (by kernel_rfl) (fun _ _ _ h => h) (Or.inl ⟨by rfl, ?_⟩) hHeld ?_ ?_
        rotate_left
        · rintro w' ⟨s0, s1⟩
          go_simp
          with_reducible rfl
        rotate_left
        · simp only [Act.put, List.setIfInBounds_toArray, List.set_cons_zero, List.set_cons_succ, i64_w, i32_w]
          rfl
        refine pure_ (i := 20) (N := some 28) (v := ?_) (a' := ?_) #[true, true, true, true, true, true, true, true, true, true, true, true, true, true, true, true, true, true, true, true, true, false, false, false] rfl rfl (by kernel_rfl) (fun _ _ _ h => h) (Or.inl ⟨by rfl, ?_⟩) ?_ ?_
        rotate_left
        · intro w'
          go_simp
          with_reducible rfl
        rotate_left
        · simp only [Act.put, List.setIfInBounds_toArray, List.set_cons_zero, List.set_cons_succ, i64_w, i32_w]
          rfl
        refine pure_ (i := 21) (N := some 29) (v := ?_) (a' := ?_) #[true, true, true, true, true, true, true, true, true, true, true, true, true, true, true, true, true, true, true, true, true, true, false, false] rfl rfl (by kernel_rfl) (fun _ _ _ h => h) (Or.inl ⟨by rfl, ?_⟩) ?_ ?_
        rotate_left
        · intro w'
          go_simp
          with_reducible rfl
        rotate_left
        · simp only [Act.put, List.setIfInBounds_toArray, List.set_cons_zero, List.set_cons_succ, i64_w, i32_w]
          rfl
        refine pure_ (i := 22) (N := some 30) (v := ?_) (a' := ?_) #[true, true, true, true, true, true, true, true, true, true, true, true, true, true, true, true, true, true, true, true, true, true, true, false] rfl rfl (by kernel_rfl) (fun _ _ _ h => h) (Or.inl ⟨by rfl, ?_⟩) ?_ ?_
        rotate_left
        · intro w'
          go_simp
          with_reducible rfl
        rotate_left
        · simp only [Act.put, List.setIfInBounds_toArray, List.set_cons_zero, List.set_cons_succ, i64_w, i32_w]
          rfl
        refine pure_ (i := 23) (N := some 31) (v := ?_) (a' := ?_) #[true, true, true, true, true, true, true, true, true, true, true, true, true, true, true, true, true, true, true, true, true, true, true, true] rfl rfl (by kernel_rfl) (fun _ _ _ h => h) (Or.inl ⟨by rfl, ?_⟩) ?_ ?_
        rotate_left
        · intro w'
          go_simp
          with_reducible rfl
        rotate_left
        · simp only [Act.put, List.setIfInBounds_toArray, List.set_cons_zero, List.set_cons_succ, i64_w, i32_w]
          rfl
        refine done_ (by kernel_rfl) ?_

        go_wp2
        go_ret
        exact ⟨rfl, by repeat (first | exact Drawn0.refl _ | apply Drawn0.step)⟩
    · have e : endOf b n = 0 := by
        unfold endOf
        rw [if_neg (by omega), if_neg (by omega)]
      rw [e]
      have c1 : decide (8 ≤ ((8 * b.length - n : Nat) : Int)) = false := decide_eq_false (by omega)
      have c2 : decide (8 ≤ 8 * b.length - n) = false := decide_eq_false (by omega)
      have c3 : decide (0 < ((8 * b.length - n : Nat) : Int)) = false := decide_eq_false (by omega)
      have c4 : decide (0 < 8 * b.length - n) = false := decide_eq_false (by omega)
      clear h hb hn hl e c8 c0
      go_enter Try.func21, Try.ntmps21
      go_wp2_with (go_at_call 20; refine (Left_good W B ok g b n HH.out HBB.out HN.out).mono ?_; rintro e w1 ⟨rfl, ⟨nd2, rfl⟩⟩)
      repeat (go_quiet (fail); try go_wp2)
      go_ret
      exact ⟨rfl, by repeat (first | exact Drawn0.refl _ | apply Drawn0.step)⟩
theorem End_nil (W : World) : Calls Try.prog 21 #[.pointer none] W fun e W' => e = .returned (.int .i64 1) ∧ W = W' := by
  go_enter Try.func21, Try.ntmps21
  go_wp2
  go_ret
  exact ⟨rfl, rfl⟩
end Go.Proofs.Ytjpepmnkiicgoaa.P
