/- The bit writer's methods: what the walks of Put, Len and Bytes come to. -/
import Derived.Test.YtfpnoceppjjafaaDoorPx2
import Derived.Test.YtfpnoceppjjafaaDoorPx1
import Derived.Test.YtfpnoceppjjafaaDoorPx3
import Derived.Test.YtfpnoceppjjafaaDoorBits
import Derived.OneCell
import Derived.RegionTactic
import Derived.BigRegion
import Derived.Outline
import Derived.Deep.QuietTactic
import Derived.BigQuiet
namespace Go.Proofs.YtfpnoceppjjafaaDoor.P
open Go.RowKit Go.Proofs.YtfpnoceppjjafaaDoor.Kit Go.Proofs.YtfpnoceppjjafaaDoorW.PrintWords Go.Proofs.YtfpnoceppjjafaaDoorW.PrintLast Go.Proofs.YtfpnoceppjjafaaDoorW.PrintMore
attribute [local go_sem] max2_int min2_int max_two min_two max_three min_three max_four min_four
set_option linter.unusedVariables false
set_option linter.unusedSimpArgs false

/-- A writer at block g of W: the bytes b, n bits of them written; its row is one of 'ok', neither is older than B. -/
def Wr (W : World) (B : Nat) (ok : Nat → Prop) (g : Nat) (b : List Int) (n : Nat) : Prop :=
  ∃ v, W.heap[g]? = some (.cells #[v, .int .i64 (n : Int)] 40 (0, 0)) ∧ B ≤ g ∧ Kd.R (Kd.int .u8) 5 W B (fun k => k ≠ g ∧ ok k) v b
theorem two_cells {W : World} {g t : Nat} {u v : Value} (h : W.heap[g]? = some (.cells #[u, v] t (0, 0))) : W.cell? ⟨g, 0, none⟩ = some u ∧ W.cell? ⟨g, 1, none⟩ = some v ∧ W.frozen? ⟨g, 0, none⟩ = false ∧ W.frozen? ⟨g, 1, none⟩ = false := by
  simp [World.cell?, World.frozen?, h]
theorem wrap64_in {n : Int} (h0 : 0 ≤ n) (h1 : n ≤ 9223372036854775807) : wrap64 n = n := by
  unfold wrap64
  omega
theorem tmod8 (m s : Nat) (hs : s = 7 - m % 8) : wrap64 (7 - Int.tmod (m : Int) 8) = (s : Int) := by
  have e : 7 - Int.tmod (m : Int) 8 = (s : Int) := by
    rw [Int.tmod_eq_emod_of_nonneg (by omega)]
    omega
  rw [e]
  exact wrap64_in (by omega) (by omega)
theorem put_facts (m l : Nat) (hl : m / 8 < l) (hm : (m : Int) < 16777300) : ∃ s : Nat, 0 ≤ (m : Int) / 8 ∧ (m : Int) / 8 < (l : Int) ∧ m / 8 < l ∧ ((m : Int) / 8).toNat = m / 8 ∧ wrap64 ((m : Int) / 8) = (m : Int) / 8 ∧ wrap64 ((m : Int) + 1) = (m : Int) + 1 ∧ wrap64 (7 - Int.tmod (m : Int) 8) = (s : Int) ∧ s ≤ 7 ∧ (s : Int) ≤ 8 ∧ s = 7 - m % 8 :=
  ⟨7 - m % 8, by omega, by omega, hl, by omega, wrap64_in (by omega) (by omega), wrap64_in (by omega) (by omega), tmod8 m _ rfl, by omega, by omega, rfl⟩
def putBit (b : List Int) (n : Nat) (bit : Int) : List Int :=
  (if n % 8 = 0 then b ++ [0] else b).set (n / 8) (Go.bits .or .u8 (rd (if n % 8 = 0 then b ++ [0] else b) ((n / 8 : Nat) : Int)) (bit * 2 ^ (7 - n % 8)))
theorem put_val (m k w : Nat) (v bit val : Int) (b2 : List Int) (s : Nat) (hv0 : 0 ≤ v) (hv1 : v ≤ 18446744073709551615) (hbit : Go.bits .and .u64 (v / 2 ^ (w - 1 - k)) 1 % 256 = bit) (hs : s = 7 - m % 8)
    (hval : Go.bits .or .u8 (rdOf 0 b2 ((m : Int) / 8)) (IntKind.u8.wrap (bit * 2 ^ s)) = val) : val = Go.bits .or .u8 (rd b2 ((m / 8 : Nat) : Int)) (v / 2 ^ (w - 1 - k) % 2 * 2 ^ (7 - m % 8)) := by
  have hp : (0 : Int) < 2 ^ (w - 1 - k) := Int.pow_pos (by decide)
  have h0 : 0 ≤ v / 2 ^ (w - 1 - k) := Int.ediv_nonneg hv0 (by omega)
  have h1 : v / 2 ^ (w - 1 - k) ≤ v := Int.ediv_le_self _ hv0
  rw [k64_and1 _ h0 (by omega)] at hbit
  have e1 : bit = v / 2 ^ (w - 1 - k) % 2 := by omega
  have e2 : IntKind.u8.wrap (bit * 2 ^ s) = v / 2 ^ (w - 1 - k) % 2 * 2 ^ (7 - m % 8) := by
    rw [← e1, ← hs, IntKind.wrap_u8]
    have h2 : bit = 0 ∨ bit = 1 := by omega
    have h3 : ∀ s : Fin 8, (2 : Int) ^ (s : Nat) % 256 = 2 ^ (s : Nat) := by decide +kernel
    have h4 := h3 ⟨s, by omega⟩
    rcases h2 with h2 | h2
    · rw [h2]
      simp
    · rw [h2]
      simpa using h4
  rw [← hval, e2]
  rfl
theorem put_len (m : Nat) (b' b2 : List Int) (val : Int) (h1 : b'.length * 8 ≤ m + 7 ∧ m ≤ b'.length * 8) (h2 : m / 8 < b2.length) (h3 : (if m % 8 = 0 then b' ++ [0] else b') = b2) : (b2.set (m / 8) val).length * 8 ≤ m + 1 + 7 ∧ m + 1 ≤ (b2.set (m / 8) val).length * 8 := by
  have h4 : b2.length = if m % 8 = 0 then b'.length + 1 else b'.length := by
    rw [← h3]
    split <;> simp
  rw [List.length_set]
  split at h4 <;> omega
def putBits : Nat → Int → Nat → List Int → Nat → List Int
  | 0, _, _, b, _ => b
  | d + 1, v, w, b, n => putBits d v w (putBit b n (v / 2 ^ (w - 1 - (w - (d + 1))) % 2)) (n + 1)

set_option maxHeartbeats 1000000 in
set_option maxRecDepth 100000 in
theorem Put_good (w0 W : World) (ok : Nat → Prop) (g : Nat) (b : List Int) (n : Nat) (v : Int) (w : Nat) (hB : Below w0.heap.size w0 W) (h : Wr W w0.heap.size ok g b n) (hok : ∀ k, W.heap.size ≤ k → ok k) (hv0 : 0 ≤ v) (hv1 : v ≤ 18446744073709551615) (hw : w ≤ 64) (hl : Lib.bitLen v.toNat ≤ w) (hn : n + 64 < 16777216) (hb : b.length * 8 ≤ n + 7 ∧ n ≤ b.length * 8) :
    Calls Tryd.prog 17 #[.pointer (some ⟨g, 0, none⟩), .int .u64 v, .int .i64 (w : Int)] W fun e W' => e = .returned (.int .i64 0) ∧ Wr W' w0.heap.size ok g (putBits w v w b n) (n + w) ∧ Below w0.heap.size w0 W' ∧ Kept W W' (fun k => k = g ∨ ok k) := by
  obtain ⟨vb, hg, hBg, hR⟩ := h
  have hwr : bits_wrong.f (w : Int) = some false := by
    unfold bits_wrong.f
    rw [if_neg (by omega)]
    simp
    omega
  have hwd : bits_Width.f v = some (Lib.bitLen v.toNat : Int) := by
    unfold bits_Width.f bits_Len64.f
    rw [if_pos ⟨hv0, hv1⟩, Option.bind_some]
  have HG := Aside0.mk hg
  have HR := Aside0.mk hR
  have HB := Aside0.mk hB
  have HWR := Aside0.mk hwr
  have HWD := Aside0.mk hwd
  have c1 : decide ((w : Int) < (Lib.bitLen v.toNat : Int)) = false := decide_eq_false (by omega)
  have c2 : decide (w < Lib.bitLen v.toNat) = false := decide_eq_false (by omega)
  clear hg hR hB hwr hwd
  go_enter Tryd.func17, Tryd.ntmps17
  go_wp2_with (first | (go_at_call 34; refine (bits_wrong.calls _ _ _ HWR.out).mono ?_; rintro e w1 ⟨rfl, ⟨nd, rfl⟩⟩) | (go_at_call 35; refine (bits_Width.calls _ _ _ HWD.out).mono ?_; rintro e w1 ⟨rfl, ⟨nd2, rfl⟩⟩))
  have hWr : Wr (W.drewN (nd + nd2)) w0.heap.size ok g b n := ⟨vb, HG.out, hBg, HR.out⟩
  have HWr := Aside0.mk hWr
  have HK := Aside0.mk (Kept.refl W (fun k => k = g ∨ ok k))
  have HBd := Aside0.mk hb
  clear hWr HG HR HWR HWD c1 c2 hb
  go_loopg [22] w (fun kq v22 W' => ∃ (k m : Nat) (b' : List Int), v22 = .int .i64 (k : Int) ∧ kq = w - k ∧ k ≤ w ∧ Aside0 (m = n + k) ∧ Aside0 (putBits (w - k) v w b' m = putBits w v w b n) ∧ Aside0 (b'.length * 8 ≤ m + 7 ∧ m ≤ b'.length * 8) ∧ Aside0 (Wr W' w0.heap.size ok g b' m) ∧ Aside0 (Below w0.heap.size w0 W') ∧ Aside0 (Kept W W' (fun k => k = g ∨ ok k)))
  case atStart => exact ⟨0, n, b, rfl, rfl, Nat.zero_le _, ⟨rfl⟩, ⟨rfl⟩, HBd, HWr, ⟨pw_below_drewN HB.out _⟩, ⟨Kept.drewN HK.out _⟩⟩
  case round =>
    clear HWr HB HK HBd
    obtain ⟨k, m, b', rfl, rfl, hk, HM, HP, HBd, HWr, HB, HK⟩ := hrel
    by_cases hlt : k < w
    · have c3 : decide ((k : Int) < (w : Int)) = true := decide_eq_true (by omega)
      have c4 : decide (k < w) = true := decide_eq_true hlt
      obtain ⟨vb', hg', hBg', hR'⟩ := HWr.out
      obtain ⟨A1, q1, e1⟩ := Kd.R_slice hR'
      subst e1
      obtain ⟨x0, x1, f0, f1⟩ := two_cells hg'
      have HG := Aside0.mk hg'
      have HR := Aside0.mk hR'
      clear hg' hR' HWr
      have HM1 := Aside0.mk (show (m : Int) < 16777300 by have := HM.out; omega)
      have HN := Aside0.mk hn
      clear hn
      go_upto_if 30 with (fail)
      go_cut [] (fun wc => ∃ (A2 : Option Addr) (q2 : Nat), Aside0 (wc.heap[g]? = some (.cells #[.slice A2 (if m % 8 = 0 then b' ++ [0] else b').length q2, .int .i64 (m : Int)] 40 (0, 0))) ∧ Aside0 (Kd.R (Kd.int .u8) 5 wc w0.heap.size (fun k => k ≠ g ∧ ok k) (.slice A2 (if m % 8 = 0 then b' ++ [0] else b').length q2) (if m % 8 = 0 then b' ++ [0] else b')) ∧ Aside0 (Below w0.heap.size w0 wc) ∧ Aside0 (Kept W wc (fun k => k = g ∨ ok k)))
      case first =>
        by_cases hz : m % 8 = 0
        · have c5 : ((m : Int) % 8 == 0) = true := beq_iff_eq.2 (by omega)
          have hgr : g < wr.heap.size := lt_of_block HG.out
          have HBD := Aside0.mk (HBd.out)
          have HZ := Aside0.mk hz
          clear hz
          go_wp2_with ((with_reducible refine gate_builtin (b := .append) (xs := #[.tmp 35, .tmp 36]) rfl ?_); at_builtin; refine Kd.R_append (Kd.int .u8) (w0 := w0) w0.heap.size rfl (.tmp 35) (.tmp 36) 24 5 (.int .u8 0) 1 rfl Tryd.underlying24 info5 rfl (by decide) (by omega) (.slice A1 b'.length q1) b' 0 [.int .u8 0] (fun k => k ≠ g ∧ ok k) (fun _ => False) rfl rfl ?aP (fun _ hk => hk.elim) ?aF ?aO ?aB ?aS ?aL ?_; (case aP => exact rfl); (case aB => exact HB.out); (case aF => exact (fun k hk => ⟨fun e => by omega, hok k (Nat.le_trans HK.out.1 hk)⟩)); (case aO => exact HR.out); (case aS => exact HB.out.size); (case aL => have := HBD.out; have := HM1.out; omega); intro v1 w9 ho hb1 hgr1 hat; have HR9 := Aside0.mk ho; have HB9 := Aside0.mk hb1; have HG9 := Aside0.mk ((hgr1.block g hgr (Kd.R_away HR.out (fun k hk => hk.1))).trans HG.out); have HK9 := Aside0.mk (Kept.of_grown hgr1 HK.out (fun k hk => .inl (.inr (HR.out.1 k hk).2))); clear ho hb1 hgr1 hat; obtain ⟨A9, q9, e9⟩ := Kd.R_slice HR9.out; subst e9; obtain ⟨x90, x91, f90, f91⟩ := two_cells HG9.out)
          go_meet
          case rel =>
            rw [if_pos HZ.out]
            exact ⟨A9, q9, ⟨blk_put HG9.out 0 _ (by rw [List.length_append]; rfl)⟩, ⟨Kd.R_far HR9.out (p := ⟨g, 0, none⟩) (fun k hk => hk.1) _⟩, ⟨below_set HB9.out hBg'⟩, ⟨Kept.setCell HK9.out (.inl (.inl rfl)) _⟩⟩
        · have c5 : ((m : Int) % 8 == 0) = false := beq_eq_false_iff_ne.2 (by omega)
          have HZ := Aside0.mk hz
          clear hz
          go_wp2
          go_meet
          case rel =>
            rw [if_neg HZ.out]
            exact ⟨A1, q1, HG, HR, HB, HK⟩
      case rest =>
        obtain ⟨A2, q2, HG2, HR2, HB2, HK2⟩ := hcut
        clear HG HR HB HK x0 x1 f0 f1
        obtain ⟨b2, hb2⟩ : ∃ b2, (if m % 8 = 0 then b' ++ [0] else b') = b2 := ⟨_, rfl⟩
        rw [hb2] at HG2 HR2
        have HL := Aside0.mk (show m / 8 < b2.length by
          rw [← hb2]
          have := HBd.out
          split
          · rw [List.length_append, List.length_singleton]
            omega
          · omega)
        have HB2L := Aside0.mk hb2
        clear hb2
        obtain ⟨q, q3, eq, qb, ql, qc, hq⟩ := Kd.R_form HR2.out (by have := HL.out; omega)
        injection eq with ea_ en_ ec_
        subst ea_ ec_
        clear en_
        obtain ⟨x0, x1, f0, f1⟩ := two_cells HG2.out
        obtain ⟨x2, f2⟩ := Kd.R_celln 0 HR2.out ((m / 8 : Nat) : Int) (by omega) (by have := HL.out; omega)
        rw [Int.toNat_natCast] at x2 f2
        have HGQ := Aside0.mk (show g ≠ q from fun e => (HR2.out.1 q rfl).1 e.symm)
        go_upto_region 9 with (fail)
        generalize hbit : Go.bits .and .u64 (v / 2 ^ (w - 1 - k)) 1 % 256 = bit
        have HBIT := Aside0.mk hbit
        clear hbit
        obtain ⟨s, i0, i1, i2, i3, i4, i5, i6, i7, i8, hs⟩ := put_facts m b2.length HL.out HM1.out
        have HS := Aside0.mk hs
        clear hs
        refine start_ (n := 22) (S := fun w' => w'.cell? ⟨g, 0, none⟩ = some (.slice (some ⟨q, 0, none⟩) b2.length q2) ∧ w'.cell? ⟨g, 1, none⟩ = some (.int .i64 (m : Int)) ∧ w'.cell? ⟨q, m / 8, none⟩ = some (.int .u8 (rdOf 0 b2 ((m / 8 : Nat) : Int))) ∧ w'.frozen? ⟨q, m / 8, none⟩ = false) (ds := [21]) #[false, false, false, false, false, false, false, false, false, false, false, false, false, false, false, false, false, false, false, false, false, false] (by kernel_rfl) rfl rfl ⟨x0, x1, x2, f2⟩ (fun hHeld => ?_)
        refine pure_ (i := 0) (N := some 48) (v := ?_) (a' := ?_) #[true, false, false, false, false, false, false, false, false, false, false, false, false, false, false, false, false, false, false, false, false, false] rfl rfl (by kernel_rfl) (fun _ _ _ h => h) (Or.inl ⟨by rfl, ?_⟩) ?_ ?_
        rotate_left
        · intro w'
          go_simp
          with_reducible rfl
        rotate_left
        · simp only [Act.put, List.setIfInBounds_toArray, List.set_cons_zero, List.set_cons_succ, i64_w, i32_w]
          rfl
        refine pure_ (i := 1) (N := some 49) (v := ?_) (a' := ?_) #[true, true, false, false, false, false, false, false, false, false, false, false, false, false, false, false, false, false, false, false, false, false] rfl rfl (by kernel_rfl) (fun _ _ _ h => h) (Or.inl ⟨by rfl, ?_⟩) ?_ ?_
        rotate_left
        · intro w'
          go_simp
          with_reducible rfl
        rotate_left
        · simp only [Act.put, List.setIfInBounds_toArray, List.set_cons_zero, List.set_cons_succ, i64_w, i32_w]
          rfl
        refine pure_ (i := 2) (N := some 50) (v := ?_) (a' := ?_) #[true, true, true, false, false, false, false, false, false, false, false, false, false, false, false, false, false, false, false, false, false, false] rfl rfl (by kernel_rfl) (fun _ _ _ h => h) (Or.inl ⟨by rfl, ?_⟩) ?_ ?_
        rotate_left
        · intro w'
          go_simp
          with_reducible rfl
        rotate_left
        · simp only [Act.put, List.setIfInBounds_toArray, List.set_cons_zero, List.set_cons_succ, i64_w, i32_w]
          rfl
        refine pure_ (i := 4) (N := some 52) (v := ?_) (a' := ?_) #[true, true, true, false, true, false, false, false, false, false, false, false, false, false, false, false, false, false, false, false, false, false] rfl rfl (by kernel_rfl) (fun _ _ _ h => h) (Or.inl ⟨by rfl, ?_⟩) ?_ ?_
        rotate_left
        · intro w'
          go_simp
          with_reducible rfl
        rotate_left
        · simp only [Act.put, List.setIfInBounds_toArray, List.set_cons_zero, List.set_cons_succ, i64_w, i32_w]
          rfl
        refine pure_ (i := 5) (N := some 53) (v := ?_) (a' := ?_) #[true, true, true, false, true, true, false, false, false, false, false, false, false, false, false, false, false, false, false, false, false, false] rfl rfl (by kernel_rfl) (fun _ _ _ h => h) (Or.inl ⟨by rfl, ?_⟩) ?_ ?_
        rotate_left
        · intro w'
          go_simp
          with_reducible rfl
        rotate_left
        · simp only [Act.put, List.setIfInBounds_toArray, List.set_cons_zero, List.set_cons_succ, i64_w, i32_w]
          rfl
        refine pure_ (i := 6) (N := some 54) (v := ?_) (a' := ?_) #[true, true, true, false, true, true, true, false, false, false, false, false, false, false, false, false, false, false, false, false, false, false] rfl rfl (by kernel_rfl) (fun _ _ _ h => h) (Or.inl ⟨by rfl, ?_⟩) ?_ ?_
        rotate_left
        · intro w'
          go_simp
          with_reducible rfl
        rotate_left
        · simp only [Act.put, List.setIfInBounds_toArray, List.set_cons_zero, List.set_cons_succ, i64_w, i32_w]
          rfl
        refine pure_ (i := 11) (N := some 59) (v := ?_) (a' := ?_) #[true, true, true, false, true, true, true, false, false, false, false, true, false, false, false, false, false, false, false, false, false, false] rfl rfl (by kernel_rfl) (fun _ _ _ h => h) (Or.inl ⟨by rfl, ?_⟩) ?_ ?_
        rotate_left
        · intro w'
          go_simp
          with_reducible rfl
        rotate_left
        · simp only [Act.put, List.setIfInBounds_toArray, List.set_cons_zero, List.set_cons_succ, i64_w, i32_w]
          rfl
        refine pure_ (i := 12) (N := some 60) (v := ?_) (a' := ?_) #[true, true, true, false, true, true, true, false, false, false, false, true, true, false, false, false, false, false, false, false, false, false] rfl rfl (by kernel_rfl) (fun _ _ _ h => h) (Or.inl ⟨by rfl, ?_⟩) ?_ ?_
        rotate_left
        · intro w'
          go_simp
          with_reducible rfl
        rotate_left
        · simp only [Act.put, List.setIfInBounds_toArray, List.set_cons_zero, List.set_cons_succ, i64_w, i32_w]
          rfl
        refine pure_ (i := 13) (N := some 61) (v := ?_) (a' := ?_) #[true, true, true, false, true, true, true, false, false, false, false, true, true, true, false, false, false, false, false, false, false, false] rfl rfl (by kernel_rfl) (fun _ _ _ h => h) (Or.inl ⟨by rfl, ?_⟩) ?_ ?_
        rotate_left
        · intro w'
          go_simp
          with_reducible rfl
        rotate_left
        · simp only [Act.put, List.setIfInBounds_toArray, List.set_cons_zero, List.set_cons_succ, i64_w, i32_w]
          rfl
        refine pure_ (i := 14) (N := some 62) (v := ?_) (a' := ?_) #[true, true, true, false, true, true, true, false, false, false, false, true, true, true, true, false, false, false, false, false, false, false] rfl rfl (by kernel_rfl) (fun _ _ _ h => h) (Or.inl ⟨by rfl, ?_⟩) ?_ ?_
        rotate_left
        · intro w'
          go_simp
          with_reducible rfl
        rotate_left
        · simp only [Act.put, List.setIfInBounds_toArray, List.set_cons_zero, List.set_cons_succ, i64_w, i32_w]
          rfl
        refine take_ (i := 3) (N := some 51) (v := ?_) (a' := ?_) #[true, true, true, true, true, true, true, false, false, false, false, true, true, true, true, false, false, false, false, false, false, false] rfl rfl (by kernel_rfl) (fun _ _ _ h => h) (Or.inl ⟨by rfl, ?_⟩) hHeld ?_ ?_
        rotate_left
        · rintro w' ⟨s0, s1, s2, s3⟩
          go_simp
          with_reducible rfl
        rotate_left
        · simp only [Act.put, List.setIfInBounds_toArray, List.set_cons_zero, List.set_cons_succ, i64_w, i32_w]
          rfl
        refine take_ (i := 7) (N := some 55) (v := ?_) (a' := ?_) #[true, true, true, true, true, true, true, true, false, false, false, true, true, true, true, false, false, false, false, false, false, false] rfl rfl (by kernel_rfl) (fun _ _ _ h => h) (Or.inl ⟨by rfl, ?_⟩) hHeld ?_ ?_
        rotate_left
        · rintro w' ⟨s0, s1, s2, s3⟩
          go_simp
          with_reducible rfl
        rotate_left
        · simp only [Act.put, List.setIfInBounds_toArray, List.set_cons_zero, List.set_cons_succ, i64_w, i32_w]
          rfl
        refine pure_ (i := 8) (N := some 56) (v := ?_) (a' := ?_) #[true, true, true, true, true, true, true, true, true, false, false, true, true, true, true, false, false, false, false, false, false, false] rfl rfl (by kernel_rfl) (fun _ _ _ h => h) (Or.inl ⟨by rfl, ?_⟩) ?_ ?_
        rotate_left
        · intro w'
          go_simp
          with_reducible rfl
        rotate_left
        · simp only [Act.put, List.setIfInBounds_toArray, List.set_cons_zero, List.set_cons_succ, i64_w, i32_w]
          rfl
        refine pure_ (i := 9) (N := some 57) (v := ?_) (a' := ?_) #[true, true, true, true, true, true, true, true, true, true, false, true, true, true, true, false, false, false, false, false, false, false] rfl rfl (by kernel_rfl) (fun _ _ _ h => h) (Or.inl ⟨by rfl, ?_⟩) ?_ ?_
        rotate_left
        · intro w'
          go_simp
          with_reducible rfl
        rotate_left
        · simp only [Act.put, List.setIfInBounds_toArray, List.set_cons_zero, List.set_cons_succ, i64_w, i32_w]
          rfl
        refine take_ (i := 10) (N := some 58) (v := ?_) (a' := ?_) #[true, true, true, true, true, true, true, true, true, true, true, true, true, true, true, false, false, false, false, false, false, false] rfl rfl (by kernel_rfl) (fun _ _ _ h => h) (Or.inl ⟨by rfl, ?_⟩) hHeld ?_ ?_
        rotate_left
        · rintro w' ⟨s0, s1, s2, s3⟩
          go_simp
          with_reducible rfl
        rotate_left
        · simp only [Act.put, List.setIfInBounds_toArray, List.set_cons_zero, List.set_cons_succ, i64_w, i32_w]
          rfl
        refine take_ (i := 15) (N := some 63) (v := ?_) (a' := ?_) #[true, true, true, true, true, true, true, true, true, true, true, true, true, true, true, true, false, false, false, false, false, false] rfl rfl (by kernel_rfl) (fun _ _ _ h => h) (Or.inl ⟨by rfl, ?_⟩) hHeld ?_ ?_
        rotate_left
        · rintro w' ⟨s0, s1, s2, s3⟩
          go_simp
          with_reducible rfl
        rotate_left
        · simp only [Act.put, List.setIfInBounds_toArray, List.set_cons_zero, List.set_cons_succ, i64_w, i32_w]
          rfl
        refine pure_ (i := 16) (N := some 64) (v := ?_) (a' := ?_) #[true, true, true, true, true, true, true, true, true, true, true, true, true, true, true, true, true, false, false, false, false, false] rfl rfl (by kernel_rfl) (fun _ _ _ h => h) (Or.inl ⟨by rfl, ?_⟩) ?_ ?_
        rotate_left
        · intro w'
          go_simp
          with_reducible rfl
        rotate_left
        · simp only [Act.put, List.setIfInBounds_toArray, List.set_cons_zero, List.set_cons_succ, i64_w, i32_w]
          rfl
        refine pure_ (i := 17) (N := some 65) (v := ?_) (a' := ?_) #[true, true, true, true, true, true, true, true, true, true, true, true, true, true, true, true, true, true, false, false, false, false] rfl rfl (by kernel_rfl) (fun _ _ _ h => h) (Or.inl ⟨by rfl, ?_⟩) ?_ ?_
        rotate_left
        · intro w'
          go_simp
          with_reducible rfl
        rotate_left
        · simp only [Act.put, List.setIfInBounds_toArray, List.set_cons_zero, List.set_cons_succ, i64_w, i32_w]
          rfl
        refine pure_ (i := 18) (N := some 66) (v := ?_) (a' := ?_) #[true, true, true, true, true, true, true, true, true, true, true, true, true, true, true, true, true, true, true, false, false, false] rfl rfl (by kernel_rfl) (fun _ _ _ h => h) (Or.inl ⟨by rfl, ?_⟩) ?_ ?_
        rotate_left
        · intro w'
          go_simp
          with_reducible rfl
        rotate_left
        · simp only [Act.put, List.setIfInBounds_toArray, List.set_cons_zero, List.set_cons_succ, i64_w, i32_w]
          rfl
        refine pure_ (i := 19) (N := some 67) (v := ?_) (a' := ?_) #[true, true, true, true, true, true, true, true, true, true, true, true, true, true, true, true, true, true, true, true, false, false] rfl rfl (by kernel_rfl) (fun _ _ _ h => h) (Or.inl ⟨by rfl, ?_⟩) ?_ ?_
        rotate_left
        · intro w'
          go_simp
          with_reducible rfl
        rotate_left
        · simp only [Act.put, List.setIfInBounds_toArray, List.set_cons_zero, List.set_cons_succ, i64_w, i32_w]
          rfl
        refine pure_ (i := 20) (N := some 68) (v := ?_) (a' := ?_) #[true, true, true, true, true, true, true, true, true, true, true, true, true, true, true, true, true, true, true, true, true, false] rfl rfl (by kernel_rfl) (fun _ _ _ h => h) (Or.inl ⟨by rfl, ?_⟩) ?_ ?_
        rotate_left
        · intro w'
          go_simp
          with_reducible rfl
        rotate_left
        · simp only [Act.put, List.setIfInBounds_toArray, List.set_cons_zero, List.set_cons_succ, i64_w, i32_w]
          rfl
        refine last_ (i := 21) (N := none) #[true, true, true, true, true, true, true, true, true, true, true, true, true, true, true, true, true, true, true, true, true, true] rfl rfl (by kernel_rfl) (by decide) (fun K hK => ?_)
        refine skip_ (w1 := ?_) (by rfl) rfl ?_ ?_
        rotate_left
        · go_simp
          rfl
        refine hK.out _ _ ?_
        clear hK K
        refine done_ (by kernel_rfl) ?_

        generalize hval : Go.bits .or .u8 (rdOf 0 b2 ((m : Int) / 8)) (IntKind.u8.wrap (bit * 2 ^ s)) = val
        have HV := Aside0.mk hval
        clear hval
        have HG3 := Aside0.mk (blk_far HG2.out (p := ⟨q, m / 8, none⟩) (fun e => HGQ.out e) (Value.int IntKind.u8 val))
        clear x0 x1 f0 f1 x2 f2
        obtain ⟨x0, x1, f0, f1⟩ := two_cells HG3.out
        go_wp2
        go_roundg (w - (k + 1))
        case measure => omega
        case rel =>
          have HV2 := Aside0.mk (put_val m k w v bit val b2 s hv0 hv1 HBIT.out HS.out HV.out)
          clear i0 i1 i2 i3 i4 i5 i6 i7 i8 hv0 hv1 hl c3 c4
          refine ⟨k + 1, m + 1, b2.set (m / 8) val, by go_num, rfl, hlt, ⟨by rw [HM.out]; rfl⟩, ⟨?_⟩, ⟨?_⟩, ⟨?_⟩, ⟨?_⟩, ⟨?_⟩⟩
          · rw [← HP.out, show w - k = (w - (k + 1)) + 1 by omega, putBits, show w - (w - (k + 1) + 1) = k by omega]
            unfold putBit
            rw [HB2L.out, HV2.out]
          · exact put_len m b' b2 val HBd.out HL.out HB2L.out
          · have h5 := Kd.R_putn HR2.out ((m / 8 : Nat) : Int) val
            rw [Int.toNat_natCast] at h5
            exact ⟨_, blk_put (blk_drew HG3.out) 1 _ rfl, hBg', Kd.R_far (Kd.R_drew h5) (p := ⟨g, 1, none⟩) (fun k hk => hk.1) _⟩
          · exact below_set (below_drew1 (below_set HB2.out qb)) hBg'
          · exact Kept.setCell (Kept.drew (Kept.setCell HK2.out (.inl (.inr (HR2.out.1 q rfl).2)) _)) (.inl (.inl rfl)) _
    · have c3 : decide ((k : Int) < (w : Int)) = false := decide_eq_false (by omega)
      have c4 : decide (k < w) = false := decide_eq_false hlt
      go_wp2
      go_ret
      have e : w - k = 0 := by omega
      have hp := HP.out
      rw [e] at hp
      simp only [putBits] at hp
      have hm := HM.out
      rw [show k = w by omega] at hm
      subst hm
      rw [← hp]
      exact ⟨rfl, HWr.out, HB.out, HK.out⟩

/-- Put refuses: a width that is none, or a number that is too wide. -/
theorem Put_bad (g : Nat) (v w : Int) (W : World) (hv0 : 0 ≤ v) (hv1 : v ≤ 18446744073709551615) (h : w < 0 ∨ 64 < w ∨ w < (Lib.bitLen v.toNat : Int)) :
    Calls Tryd.prog 17 #[.pointer (some ⟨g, 0, none⟩), .int .u64 v, .int .i64 w] W fun e W' => e = .returned (.int .i64 1) ∧ Drawn0 W W' := by
  have hwd : bits_Width.f v = some (Lib.bitLen v.toNat : Int) := by
    unfold bits_Width.f bits_Len64.f
    rw [if_pos ⟨hv0, hv1⟩, Option.bind_some]
  have HWD := Aside0.mk hwd
  clear hwd
  by_cases c : w < 0 ∨ 64 < w
  · have hwr : bits_wrong.f w = some true := by
      unfold bits_wrong.f
      by_cases c0 : w < 0
      · rw [if_pos c0]
      · rw [if_neg c0]
        simp
        omega
    have HWR := Aside0.mk hwr
    clear hwr h c
    go_enter Tryd.func17, Tryd.ntmps17
    go_wp2_with (first | (go_at_call 34; refine (bits_wrong.calls _ _ _ HWR.out).mono ?_; rintro e w1 ⟨rfl, ⟨nd, rfl⟩⟩) | (go_at_call 35; refine (bits_Width.calls _ _ _ HWD.out).mono ?_; rintro e w1 ⟨rfl, ⟨nd2, rfl⟩⟩))
    go_ret
    exact ⟨rfl, by repeat (first | exact Drawn0.refl _ | apply Drawn0.step)⟩
  · have hwr : bits_wrong.f w = some false := by
      unfold bits_wrong.f
      rw [if_neg (by omega)]
      simp
      omega
    have HWR := Aside0.mk hwr
    have c1 : decide (w < (Lib.bitLen v.toNat : Int)) = true := decide_eq_true (by omega)
    clear hwr h c
    go_enter Tryd.func17, Tryd.ntmps17
    go_wp2_with (first | (go_at_call 34; refine (bits_wrong.calls _ _ _ HWR.out).mono ?_; rintro e w1 ⟨rfl, ⟨nd, rfl⟩⟩) | (go_at_call 35; refine (bits_Width.calls _ _ _ HWD.out).mono ?_; rintro e w1 ⟨rfl, ⟨nd2, rfl⟩⟩))
    go_ret
    exact ⟨rfl, by repeat (first | exact Drawn0.refl _ | apply Drawn0.step)⟩
theorem Put_nil (v w : Int) (W : World) : Calls Tryd.prog 17 #[.pointer none, .int .u64 v, .int .i64 w] W fun e W' => e = .returned (.int .i64 1) ∧ W = W' := by
  go_enter Tryd.func17, Tryd.ntmps17
  go_wp2
  go_ret
  exact ⟨rfl, rfl⟩
theorem bclone_f (l : List Int) (h : l.length < 140737488355328) : slices_Clone_byte_byte.f l = some l := by
  unfold slices_Clone_byte_byte.f
  simp [h]
theorem Bytes_good (W : World) (B : Nat) (ok : Nat → Prop) (g : Nat) (b : List Int) (n : Nat) (h : Wr W B ok g b n) (hb : b.length < 140737488355328) : Calls Tryd.prog 21 #[.pointer (some ⟨g, 0, none⟩)] W fun e W' => ∃ v, e = .returned v ∧ Kd.R (Kd.int .u8) 5 W' W.heap.size (fun _ => True) v b ∧ Below W.heap.size W W' := by
  obtain ⟨vb, hg, hBg, hR⟩ := h
  obtain ⟨A1, q1, e1⟩ := Kd.R_slice hR
  subst e1
  obtain ⟨x0, x1, f0, f1⟩ := two_cells hg
  have HR := Aside0.mk (Kd.R_reads' hR)
  have HC := Aside0.mk (bclone_f b hb)
  clear hg hR hb
  go_enter Tryd.func21, Tryd.ntmps21
  go_wp2_with (go_at_call 38; refine (slices_Clone_byte_byte.calls _ _ b b _ HR.out.2.2 HR.out.2.1 HC.out).mono ?_; rintro e w1 ⟨v1, rfl, ho, hb⟩; have HO := Aside0.mk ho; have HB := Aside0.mk hb; clear ho hb)
  go_ret
  exact ⟨_, rfl, HO.out, HB.out⟩
theorem Bytes_nil (W : World) : Calls Tryd.prog 21 #[.pointer none] W fun e W' => e = .returned (.slice none 0 0) ∧ W = W' := by
  go_enter Tryd.func21, Tryd.ntmps21
  go_wp2
  go_ret
  exact ⟨rfl, rfl⟩

end Go.Proofs.YtfpnoceppjjafaaDoor.P

/- The bit reader's methods: what the walks of NewReader, Left, Get and End come to. -/
namespace Go.Proofs.YtfpnoceppjjafaaDoor.P
open Go.RowKit Go.Proofs.YtfpnoceppjjafaaDoor.Kit Go.Proofs.YtfpnoceppjjafaaDoorW.PrintWords Go.Proofs.YtfpnoceppjjafaaDoorW.PrintLast Go.Proofs.YtfpnoceppjjafaaDoorW.PrintMore
attribute [local go_sem] max2_int min2_int max_two min_two max_three min_three max_four min_four
set_option linter.unusedVariables false
set_option linter.unusedSimpArgs false

/-! the reader -/
/-- A reader at block g of W: over the bytes b, so many bits read. -/
def Rd (W : World) (B : Nat) (ok : Nat → Prop) (g : Nat) (b : List Int) (n : Nat) : Prop :=
  ∃ v, W.heap[g]? = some (.cells #[v, .int .i64 (n : Int)] 70 (0, 0)) ∧ B ≤ g ∧ Kd.R (Kd.int .u8) 5 W B (fun k => k ≠ g ∧ ok k) v b
theorem NewReader_any (w0 W : World) (A : Option Addr) (c : Nat) (b : List Int) (hB : Below w0.heap.size w0 W) (hr : Kd.C (Kd.int .u8) W A b.length b) (hc : b.length ≤ c) (hb : b.length < 140737488355328) :
    Calls Tryd.prog 27 #[.slice A b.length c] W fun e W' => ∃ g, e = .returned (.pointer (some ⟨g, 0, none⟩)) ∧ Rd W' w0.heap.size (fun k => W.heap.size ≤ k) g b 0 ∧ W.heap.size ≤ g ∧ Below w0.heap.size w0 W' ∧ Below W.heap.size W W' := by
  have HR := Aside0.mk hr
  have HCC := Aside0.mk hc
  have HC := Aside0.mk (bclone_f b hb)
  have HB0 := Aside0.mk hB
  clear hr hb hc hB
  go_enter Tryd.func27, Tryd.ntmps27
  go_wp2_with (go_at_call 38; refine (slices_Clone_byte_byte.calls _ _ b b _ HR.out HCC.out HC.out).mono ?_; rintro e w1 ⟨v1, rfl, ho, hb⟩; have HO := Aside0.mk ho; have HB := Aside0.mk hb; clear ho hb; obtain ⟨A9, q9, e9⟩ := Kd.R_slice HO.out; subst e9)
  go_ret
  exact ⟨_, rfl, ⟨_, blk_new _ _, Nat.le_trans HB0.out.size HB.out.size, Kd.R_alloc (Kd.R_mono (Kd.R_bound (Kd.R_lower (Kd.R_mono (Kd.R_bound HO.out) (fun k hk => hk.2.1)) HB0.out.size)) (fun k hk => ⟨by have := hk.2.2.1; omega, hk.1⟩)) _⟩, HB.out.size, below_alloc (below_step HB0.out HB.out) _, below_alloc HB.out _⟩
theorem Left_good (W : World) (B : Nat) (ok : Nat → Prop) (g : Nat) (b : List Int) (n : Nat) (h : Rd W B ok g b n) (hb : b.length < 2097152) (hn : n ≤ 8 * b.length) : Calls Tryd.prog 40 #[.pointer (some ⟨g, 0, none⟩)] W fun e W' => e = .returned (.int .i64 ((8 * b.length - n : Nat) : Int)) ∧ Drawn0 W W' := by
  obtain ⟨vb, hg, hBg, hR⟩ := h
  obtain ⟨A1, q1, e1⟩ := Kd.R_slice hR
  subst e1
  obtain ⟨x0, x1, f0, f1⟩ := two_cells hg
  obtain ⟨r, hr1, hr2, hr3⟩ : ∃ r : Nat, r = 8 * b.length - n ∧ wrap64 ((b.length : Int) * 8) = (b.length : Int) * 8 ∧ wrap64 ((b.length : Int) * 8 - (n : Int)) = (r : Int) := ⟨_, rfl, wrap64_in (by omega) (by omega), by rw [wrap64_in (by omega) (by omega)]; omega⟩
  rw [← hr1]
  clear hg hR hb hn hr1
  go_enter Tryd.func40, Tryd.ntmps40
  go_wp2
  repeat (go_quiet (fail); try go_wp2)
  go_ret
  exact ⟨by first | rfl | (simp; done) | (simp [*]; done), by repeat (first | exact Drawn0.refl _ | apply Drawn0.step)⟩
theorem Left_nil (W : World) : Calls Tryd.prog 40 #[.pointer none] W fun e W' => e = .returned (.int .i64 0) ∧ W = W' := by
  go_enter Tryd.func40, Tryd.ntmps40
  go_wp2
  go_ret
  exact ⟨rfl, rfl⟩
theorem Get_nil (w : Int) (W : World) : Calls Tryd.prog 28 #[.pointer none, .int .i64 w] W fun e W' => e = .returned (.tuple #[.int .u64 0, .int .i64 1]) ∧ W = W' := by
  go_enter Tryd.func28, Tryd.ntmps28
  go_wp2
  go_ret2
  exact ⟨rfl, rfl⟩
theorem Get_bad (g : Nat) (w : Int) (W : World) (h : w < 0 ∨ 64 < w) : Calls Tryd.prog 28 #[.pointer (some ⟨g, 0, none⟩), .int .i64 w] W fun e W' => e = .returned (.tuple #[.int .u64 0, .int .i64 1]) ∧ Drawn0 W W' := by
  have hwr : bits_wrong.f w = some true := by
    unfold bits_wrong.f
    by_cases c0 : w < 0
    · rw [if_pos c0]
    · rw [if_neg c0]
      simp
      omega
  have HWR := Aside0.mk hwr
  clear hwr h
  go_enter Tryd.func28, Tryd.ntmps28
  go_wp2_with (go_at_call 34; refine (bits_wrong.calls _ _ _ HWR.out).mono ?_; rintro e w1 ⟨rfl, ⟨nd, rfl⟩⟩)
  go_ret2
  exact ⟨rfl, by repeat (first | exact Drawn0.refl _ | apply Drawn0.step)⟩
theorem wrong_no (w : Nat) (hw : w ≤ 64) : bits_wrong.f (w : Int) = some false := by
  unfold bits_wrong.f
  rw [if_neg (by omega)]
  simp
  omega
theorem Get_short (W : World) (B : Nat) (ok : Nat → Prop) (g : Nat) (b : List Int) (n w : Nat) (h : Rd W B ok g b n) (hb : b.length < 2097152) (hn : n ≤ 8 * b.length) (hw : w ≤ 64) (hs : 8 * b.length - n < w) : Calls Tryd.prog 28 #[.pointer (some ⟨g, 0, none⟩), .int .i64 (w : Int)] W fun e W' => e = .returned (.tuple #[.int .u64 0, .int .i64 2]) ∧ Drawn0 W W' := by
  have HWR := Aside0.mk (wrong_no w hw)
  have HH := Aside0.mk h
  have HBB := Aside0.mk hb
  have HN := Aside0.mk hn
  have c1 : decide (((8 * b.length - n : Nat) : Int) < (w : Int)) = true := decide_eq_true (by omega)
  have c2 : decide (8 * b.length - n < w) = true := decide_eq_true hs
  clear h hb hn hw hs
  go_enter Tryd.func28, Tryd.ntmps28
  go_wp2_with (first | (go_at_call 34; refine (bits_wrong.calls _ _ _ HWR.out).mono ?_; rintro e w1 ⟨rfl, ⟨nd, rfl⟩⟩) | (go_at_call 40; refine (Left_good (W.drewN nd) B ok g b n HH.out HBB.out HN.out).mono ?_; rintro e w1 ⟨rfl, ⟨nd2, rfl⟩⟩))
  go_ret2
  exact ⟨rfl, by repeat (first | exact Drawn0.refl _ | apply Drawn0.step)⟩
/-- The bit at place n of bytes. -/
def bitAt (b : List Int) (n : Nat) : Int := rd b ((n / 8 : Nat) : Int) / 2 ^ (7 - n % 8) % 2
def getBits : Nat → Int → List Int → Nat → Int
  | 0, v, _, _ => v
  | d + 1, v, b, n => getBits d (v * 2 + bitAt b n) b (n + 1)
theorem next_k (k : Nat) (h : k < 64) : wrap64 ((k : Int) + 1) = ((k + 1 : Nat) : Int) := by
  rw [wrap64_in (by omega) (by omega)]
  rfl
theorem bit_val (x : Int) (h0 : 0 ≤ x) (h1 : x < 256) : Go.bits .and .u8 x 1 = x % 2 := by
  obtain ⟨n, rfl⟩ := Int.eq_ofNat_of_zero_le h0
  have key : ∀ n : Fin 256, Go.bits .and .u8 ((n : Nat) : Int) 1 = ((n : Nat) : Int) % 2 := by decide +kernel
  exact key ⟨n, by omega⟩
theorem get_val (b : List Int) (m k : Nat) (x bit : Int) (s : Nat) (hx : 0 ≤ x ∧ x < 2 ^ k) (hk : k < 64) (hby : 0 ≤ rd b ((m / 8 : Nat) : Int) ∧ rd b ((m / 8 : Nat) : Int) < 256) (hs : s = 7 - m % 8)
    (hbit : Go.bits .and .u8 (rdOf 0 b ((m : Int) / 8) / 2 ^ s) 1 = bit) : Go.bits .or .u64 (IntKind.u64.wrap (x * 2)) (IntKind.u64.wrap bit) = x * 2 + bitAt b m ∧ 0 ≤ x * 2 + bitAt b m ∧ x * 2 + bitAt b m < 2 ^ (k + 1) := by
  have hp : (0 : Int) < 2 ^ s := Int.pow_pos (by decide)
  have h0 : 0 ≤ rd b ((m / 8 : Nat) : Int) / 2 ^ s := Int.ediv_nonneg hby.1 (by omega)
  have h1 : rd b ((m / 8 : Nat) : Int) / 2 ^ s ≤ rd b ((m / 8 : Nat) : Int) := Int.ediv_le_self _ hby.1
  have e : rdOf 0 b ((m : Int) / 8) = rd b ((m / 8 : Nat) : Int) := rfl
  rw [e, bit_val _ h0 (by omega)] at hbit
  have hb : bit = bitAt b m := by
    unfold bitAt
    rw [← hs, hbit]
  have h2 : 0 ≤ bit ∧ bit < 2 := by omega
  have h3 : (2 : Int) ^ k ≤ 2 ^ 63 := by exact_mod_cast Nat.pow_le_pow_right (by decide) (show k ≤ 63 by omega)
  rw [← hb, k64_id (x * 2) (by omega) (by omega), k64_id bit (by omega) (by omega), Int.pow_succ]
  refine ⟨k64_or_add' 1 bit (x * 2) h2.1 (by omega) (by omega) (by omega) (by omega) (by omega), by omega, by omega⟩
theorem Get_good (w0 W : World) (ok : Nat → Prop) (g : Nat) (b : List Int) (n w : Nat) (h : Rd W w0.heap.size ok g b n) (hB : Below w0.heap.size w0 W) (hb : b.length < 2097152) (hw : w ≤ 64) (hs : n + w ≤ 8 * b.length) (hby : ∀ x ∈ b, 0 ≤ x ∧ x < 256) :
    Calls Tryd.prog 28 #[.pointer (some ⟨g, 0, none⟩), .int .i64 (w : Int)] W fun e W' => e = .returned (.tuple #[.int .u64 (getBits w 0 b n), .int .i64 0]) ∧ Rd W' w0.heap.size ok g b (n + w) ∧ Below w0.heap.size w0 W' ∧ Kept W W' (fun k => k = g) := by
  have HWR := Aside0.mk (wrong_no w hw)
  have HH := Aside0.mk h
  have HBB := Aside0.mk hb
  have HN := Aside0.mk (show n ≤ 8 * b.length by omega)
  have HB := Aside0.mk hB
  have HS := Aside0.mk hs
  have HW := Aside0.mk hw
  have HBY := Aside0.mk hby
  have HK := Aside0.mk (Kept.refl W (fun k => k = g))
  have c1 : decide (((8 * b.length - n : Nat) : Int) < (w : Int)) = false := decide_eq_false (by omega)
  have c2 : decide (8 * b.length - n < w) = false := decide_eq_false (by omega)
  clear h hb hw hs hB hby
  go_enter Tryd.func28, Tryd.ntmps28
  go_wp2_with (first | (go_at_call 34; refine (bits_wrong.calls _ _ _ HWR.out).mono ?_; rintro e w1 ⟨rfl, ⟨nd, rfl⟩⟩) | (go_at_call 40; refine (Left_good (W.drewN nd) w0.heap.size ok g b n HH.out HBB.out HN.out).mono ?_; rintro e w1 ⟨rfl, ⟨nd2, rfl⟩⟩))
  clear c1 c2
  have HH2 := Aside0.mk (show Rd (W.drewN (nd + nd2)) w0.heap.size ok g b n from HH.out)
  clear HH
  go_loopg [6, 21] w (fun kq v6 v21 W' => ∃ (k m : Nat) (x : Int), v6 = .int .u64 x ∧ v21 = .int .i64 (k : Int) ∧ kq = w - k ∧ k ≤ w ∧ Aside0 (m = n + k) ∧ Aside0 (0 ≤ x ∧ x < 2 ^ k) ∧ Aside0 (getBits (w - k) x b m = getBits w 0 b n) ∧ Aside0 (Rd W' w0.heap.size ok g b m) ∧ Aside0 (Below w0.heap.size w0 W') ∧ Aside0 (Kept W W' (fun k => k = g)))
  case atStart => exact ⟨0, n, 0, rfl, rfl, rfl, Nat.zero_le _, ⟨rfl⟩, ⟨by decide⟩, ⟨rfl⟩, HH2, ⟨pw_below_drewN HB.out _⟩, ⟨Kept.drewN HK.out _⟩⟩
  case round =>
    clear HH2 HB HK
    obtain ⟨k, m, x, rfl, rfl, rfl, hk, HM, HX, HP, HH, HB, HK⟩ := hrel
    by_cases hlt : k < w
    · have c3 : decide ((k : Int) < (w : Int)) = true := decide_eq_true (by omega)
      have c4 : decide (k < w) = true := decide_eq_true hlt
      obtain ⟨vb, hg, hBg, hR⟩ := HH.out
      obtain ⟨q, q2, eq, qb, ql, qc, hq⟩ := Kd.R_form hR (by have := HS.out; omega)
      subst eq
      have HG := Aside0.mk hg
      have HR := Aside0.mk hR
      clear hg hR hq
      have hms : m / 8 < b.length := by
        have := HS.out
        have := HM.out
        omega
      obtain ⟨x0, x1, f0, f1⟩ := two_cells HG.out
      obtain ⟨x2, f2⟩ := Kd.R_celln 0 HR.out ((m / 8 : Nat) : Int) (by omega) (by omega)
      rw [Int.toNat_natCast] at x2
      clear f2
      obtain ⟨s, i0, i1, i2, i3, i4, i5, i6, i7, i8, hs⟩ := put_facts m b.length hms (by have := HS.out; have := HM.out; have := HBB.out; omega)
      have HS7 := Aside0.mk hs
      clear hs hms
      go_upto_region 8 with (fail)
      refine start_ (n := 20) (S := fun w' => w'.cell? ⟨g, 0, none⟩ = some (.slice (some ⟨q, 0, none⟩) b.length q2) ∧ w'.cell? ⟨g, 1, none⟩ = some (.int .i64 (m : Int)) ∧ w'.cell? ⟨q, m / 8, none⟩ = some (.int .u8 (rdOf 0 b ((m / 8 : Nat) : Int)))) (ds := []) #[false, false, false, false, false, false, false, false, false, false, false, false, false, false, false, false, false, false, false, false] (by kernel_rfl) rfl rfl ⟨x0, x1, x2⟩ (fun hHeld => ?_)
      refine pure_ (i := 0) (N := some 23) (v := ?_) (a' := ?_) #[true, false, false, false, false, false, false, false, false, false, false, false, false, false, false, false, false, false, false, false] rfl rfl (by kernel_rfl) (fun _ _ _ h => h) (Or.inl ⟨by rfl, ?_⟩) ?_ ?_
      rotate_left
      · intro w'
        go_simp
        with_reducible rfl
      rotate_left
      · simp only [Act.put, List.setIfInBounds_toArray, List.set_cons_zero, List.set_cons_succ, i64_w, i32_w]
        rfl
      refine pure_ (i := 1) (N := some 24) (v := ?_) (a' := ?_) #[true, true, false, false, false, false, false, false, false, false, false, false, false, false, false, false, false, false, false, false] rfl rfl (by kernel_rfl) (fun _ _ _ h => h) (Or.inl ⟨by rfl, ?_⟩) ?_ ?_
      rotate_left
      · intro w'
        go_simp
        with_reducible rfl
      rotate_left
      · simp only [Act.put, List.setIfInBounds_toArray, List.set_cons_zero, List.set_cons_succ, i64_w, i32_w]
        rfl
      refine pure_ (i := 2) (N := some 25) (v := ?_) (a' := ?_) #[true, true, true, false, false, false, false, false, false, false, false, false, false, false, false, false, false, false, false, false] rfl rfl (by kernel_rfl) (fun _ _ _ h => h) (Or.inl ⟨by rfl, ?_⟩) ?_ ?_
      rotate_left
      · intro w'
        go_simp
        with_reducible rfl
      rotate_left
      · simp only [Act.put, List.setIfInBounds_toArray, List.set_cons_zero, List.set_cons_succ, i64_w, i32_w]
        rfl
      refine pure_ (i := 4) (N := some 27) (v := ?_) (a' := ?_) #[true, true, true, false, true, false, false, false, false, false, false, false, false, false, false, false, false, false, false, false] rfl rfl (by kernel_rfl) (fun _ _ _ h => h) (Or.inl ⟨by rfl, ?_⟩) ?_ ?_
      rotate_left
      · intro w'
        go_simp
        with_reducible rfl
      rotate_left
      · simp only [Act.put, List.setIfInBounds_toArray, List.set_cons_zero, List.set_cons_succ, i64_w, i32_w]
        rfl
      refine pure_ (i := 5) (N := some 28) (v := ?_) (a' := ?_) #[true, true, true, false, true, true, false, false, false, false, false, false, false, false, false, false, false, false, false, false] rfl rfl (by kernel_rfl) (fun _ _ _ h => h) (Or.inl ⟨by rfl, ?_⟩) ?_ ?_
      rotate_left
      · intro w'
        go_simp
        with_reducible rfl
      rotate_left
      · simp only [Act.put, List.setIfInBounds_toArray, List.set_cons_zero, List.set_cons_succ, i64_w, i32_w]
        rfl
      refine pure_ (i := 6) (N := some 29) (v := ?_) (a' := ?_) #[true, true, true, false, true, true, true, false, false, false, false, false, false, false, false, false, false, false, false, false] rfl rfl (by kernel_rfl) (fun _ _ _ h => h) (Or.inl ⟨by rfl, ?_⟩) ?_ ?_
      rotate_left
      · intro w'
        go_simp
        with_reducible rfl
      rotate_left
      · simp only [Act.put, List.setIfInBounds_toArray, List.set_cons_zero, List.set_cons_succ, i64_w, i32_w]
        rfl
      refine pure_ (i := 11) (N := some 34) (v := ?_) (a' := ?_) #[true, true, true, false, true, true, true, false, false, false, false, true, false, false, false, false, false, false, false, false] rfl rfl (by kernel_rfl) (fun _ _ _ h => h) (Or.inl ⟨by rfl, ?_⟩) ?_ ?_
      rotate_left
      · intro w'
        go_simp
        with_reducible rfl
      rotate_left
      · simp only [Act.put, List.setIfInBounds_toArray, List.set_cons_zero, List.set_cons_succ, i64_w, i32_w]
        rfl
      refine pure_ (i := 12) (N := some 35) (v := ?_) (a' := ?_) #[true, true, true, false, true, true, true, false, false, false, false, true, true, false, false, false, false, false, false, false] rfl rfl (by kernel_rfl) (fun _ _ _ h => h) (Or.inl ⟨by rfl, ?_⟩) ?_ ?_
      rotate_left
      · intro w'
        go_simp
        with_reducible rfl
      rotate_left
      · simp only [Act.put, List.setIfInBounds_toArray, List.set_cons_zero, List.set_cons_succ, i64_w, i32_w]
        rfl
      refine pure_ (i := 13) (N := some 36) (v := ?_) (a' := ?_) #[true, true, true, false, true, true, true, false, false, false, false, true, true, true, false, false, false, false, false, false] rfl rfl (by kernel_rfl) (fun _ _ _ h => h) (Or.inl ⟨by rfl, ?_⟩) ?_ ?_
      rotate_left
      · intro w'
        go_simp
        with_reducible rfl
      rotate_left
      · simp only [Act.put, List.setIfInBounds_toArray, List.set_cons_zero, List.set_cons_succ, i64_w, i32_w]
        rfl
      refine take_ (i := 3) (N := some 26) (v := ?_) (a' := ?_) #[true, true, true, true, true, true, true, false, false, false, false, true, true, true, false, false, false, false, false, false] rfl rfl (by kernel_rfl) (fun _ _ _ h => h) (Or.inl ⟨by rfl, ?_⟩) hHeld ?_ ?_
      rotate_left
      · rintro w' ⟨s0, s1, s2⟩
        go_simp
        with_reducible rfl
      rotate_left
      · simp only [Act.put, List.setIfInBounds_toArray, List.set_cons_zero, List.set_cons_succ, i64_w, i32_w]
        rfl
      refine take_ (i := 7) (N := some 30) (v := ?_) (a' := ?_) #[true, true, true, true, true, true, true, true, false, false, false, true, true, true, false, false, false, false, false, false] rfl rfl (by kernel_rfl) (fun _ _ _ h => h) (Or.inl ⟨by rfl, ?_⟩) hHeld ?_ ?_
      rotate_left
      · rintro w' ⟨s0, s1, s2⟩
        go_simp
        with_reducible rfl
      rotate_left
      · simp only [Act.put, List.setIfInBounds_toArray, List.set_cons_zero, List.set_cons_succ, i64_w, i32_w]
        rfl
      refine pure_ (i := 8) (N := some 31) (v := ?_) (a' := ?_) #[true, true, true, true, true, true, true, true, true, false, false, true, true, true, false, false, false, false, false, false] rfl rfl (by kernel_rfl) (fun _ _ _ h => h) (Or.inl ⟨by rfl, ?_⟩) ?_ ?_
      rotate_left
      · intro w'
        go_simp
        with_reducible rfl
      rotate_left
      · simp only [Act.put, List.setIfInBounds_toArray, List.set_cons_zero, List.set_cons_succ, i64_w, i32_w]
        rfl
      refine pure_ (i := 9) (N := some 32) (v := ?_) (a' := ?_) #[true, true, true, true, true, true, true, true, true, true, false, true, true, true, false, false, false, false, false, false] rfl rfl (by kernel_rfl) (fun _ _ _ h => h) (Or.inl ⟨by rfl, ?_⟩) ?_ ?_
      rotate_left
      · intro w'
        go_simp
        with_reducible rfl
      rotate_left
      · simp only [Act.put, List.setIfInBounds_toArray, List.set_cons_zero, List.set_cons_succ, i64_w, i32_w]
        rfl
      refine take_ (i := 10) (N := some 33) (v := ?_) (a' := ?_) #[true, true, true, true, true, true, true, true, true, true, true, true, true, true, false, false, false, false, false, false] rfl rfl (by kernel_rfl) (fun _ _ _ h => h) (Or.inl ⟨by rfl, ?_⟩) hHeld ?_ ?_
      rotate_left
      · rintro w' ⟨s0, s1, s2⟩
        go_simp
        with_reducible rfl
      rotate_left
      · simp only [Act.put, List.setIfInBounds_toArray, List.set_cons_zero, List.set_cons_succ, i64_w, i32_w]
        rfl
      refine take_ (i := 14) (N := some 37) (v := ?_) (a' := ?_) #[true, true, true, true, true, true, true, true, true, true, true, true, true, true, true, false, false, false, false, false] rfl rfl (by kernel_rfl) (fun _ _ _ h => h) (Or.inl ⟨by rfl, ?_⟩) hHeld ?_ ?_
      rotate_left
      · rintro w' ⟨s0, s1, s2⟩
        go_simp
        with_reducible rfl
      rotate_left
      · simp only [Act.put, List.setIfInBounds_toArray, List.set_cons_zero, List.set_cons_succ, i64_w, i32_w]
        rfl
      refine pure_ (i := 15) (N := some 38) (v := ?_) (a' := ?_) #[true, true, true, true, true, true, true, true, true, true, true, true, true, true, true, true, false, false, false, false] rfl rfl (by kernel_rfl) (fun _ _ _ h => h) (Or.inl ⟨by rfl, ?_⟩) ?_ ?_
      rotate_left
      · intro w'
        go_simp
        with_reducible rfl
      rotate_left
      · simp only [Act.put, List.setIfInBounds_toArray, List.set_cons_zero, List.set_cons_succ, i64_w, i32_w]
        rfl
      refine pure_ (i := 16) (N := some 39) (v := ?_) (a' := ?_) #[true, true, true, true, true, true, true, true, true, true, true, true, true, true, true, true, true, false, false, false] rfl rfl (by kernel_rfl) (fun _ _ _ h => h) (Or.inl ⟨by rfl, ?_⟩) ?_ ?_
      rotate_left
      · intro w'
        go_simp
        with_reducible rfl
      rotate_left
      · simp only [Act.put, List.setIfInBounds_toArray, List.set_cons_zero, List.set_cons_succ, i64_w, i32_w]
        rfl
      refine pure_ (i := 17) (N := some 40) (v := ?_) (a' := ?_) #[true, true, true, true, true, true, true, true, true, true, true, true, true, true, true, true, true, true, false, false] rfl rfl (by kernel_rfl) (fun _ _ _ h => h) (Or.inl ⟨by rfl, ?_⟩) ?_ ?_
      rotate_left
      · intro w'
        go_simp
        with_reducible rfl
      rotate_left
      · simp only [Act.put, List.setIfInBounds_toArray, List.set_cons_zero, List.set_cons_succ, i64_w, i32_w]
        rfl
      refine pure_ (i := 18) (N := some 41) (v := ?_) (a' := ?_) #[true, true, true, true, true, true, true, true, true, true, true, true, true, true, true, true, true, true, true, false] rfl rfl (by kernel_rfl) (fun _ _ _ h => h) (Or.inl ⟨by rfl, ?_⟩) ?_ ?_
      rotate_left
      · intro w'
        go_simp
        with_reducible rfl
      rotate_left
      · simp only [Act.put, List.setIfInBounds_toArray, List.set_cons_zero, List.set_cons_succ, i64_w, i32_w]
        rfl
      refine pure_ (i := 19) (N := some 7) (v := ?_) (a' := ?_) #[true, true, true, true, true, true, true, true, true, true, true, true, true, true, true, true, true, true, true, true] rfl rfl (by kernel_rfl) (fun _ _ _ h => h) (Or.inl ⟨by rfl, ?_⟩) ?_ ?_
      rotate_left
      · intro w'
        go_simp
        with_reducible rfl
      rotate_left
      · simp only [Act.put, List.setIfInBounds_toArray, List.set_cons_zero, List.set_cons_succ, i64_w, i32_w]
        rfl
      refine done_ (by kernel_rfl) ?_

      generalize hbit : Go.bits .and .u8 (rdOf 0 b ((m : Int) / 8) / 2 ^ s) 1 = bit
      have HBIT := Aside0.mk hbit
      clear hbit
      go_wp2
      go_roundg (w - (k + 1))
      case measure => exact (by clear i0 i1 i2 i3 i4 i5 i6 i7 i8; omega)
      case rel =>
        obtain ⟨e1, e2, e3⟩ := get_val b m k x bit s HX.out (by have := HW.out; clear i0 i1 i2 i3 i4 i5 i6 i7 i8; omega) (HBY.out _ (rd_mem b ((m / 8 : Nat) : Int) (by clear i3 i4 i5 i6; omega) (by clear i3 i4 i5 i6; omega))) HS7.out HBIT.out
        have e4 := next_k k (by have := HW.out; clear i0 i1 i2 i3 i4 i5 i6 i7 i8 e1; omega)
        clear i0 i1 i2 i3 i4 i5 i6 i7 i8
        refine ⟨k + 1, m + 1, x * 2 + bitAt b m, by rw [e1], by rw [e4], rfl, hlt, ⟨by rw [HM.out]; rfl⟩, ⟨e2, e3⟩, ⟨?_⟩, ⟨?_⟩, ⟨below_drew1 (below_set HB.out hBg)⟩, ⟨Kept.drew (Kept.setCell HK.out (.inl rfl) _)⟩⟩
        · rw [← HP.out, show w - k = (w - (k + 1)) + 1 from by clear e1 e4; omega, getBits]
        · exact ⟨_, blk_put HG.out 1 _ rfl, hBg, Kd.R_far HR.out (p := ⟨g, 1, none⟩) (fun k hk => hk.1) _⟩
    · have c3 : decide ((k : Int) < (w : Int)) = false := decide_eq_false (by omega)
      have c4 : decide (k < w) = false := decide_eq_false hlt
      go_wp2
      go_ret2
      have hp := HP.out
      rw [show w - k = 0 by omega] at hp
      simp only [getBits] at hp
      have hm := HM.out
      rw [show k = w by omega] at hm
      subst hm
      rw [← hp]
      exact ⟨rfl, HH.out, HB.out, HK.out⟩
theorem end_facts (n l : Nat) (h0 : 0 < n) (hl : l < 8) (hb : n < 2097152) : (0 : Int) ≤ (n : Int) - 1 ∧ wrap64 ((n : Int) - 1) = ((n - 1 : Nat) : Int) ∧ (((n - 1 : Nat) : Int)).toNat = n - 1 ∧ (0 : Int) ≤ ((n - 1 : Nat) : Int) ∧ wrap64 (8 - (l : Int)) = ((8 - l : Nat) : Int) := by
  refine ⟨by omega, ?_, by omega, by omega, ?_⟩
  · rw [show (n : Int) - 1 = ((n - 1 : Nat) : Int) by omega]
    exact wrap64_in (by omega) (by omega)
  · rw [show 8 - (l : Int) = ((8 - l : Nat) : Int) by omega]
    exact wrap64_in (by omega) (by omega)
/-- What End tells: 0 where nothing is left but a byte's zero bits, else 3. -/
def endOf (b : List Int) (n : Nat) : Int := if 8 ≤ 8 * b.length - n then 3 else if 0 < 8 * b.length - n then (if rd b ((b.length : Int) - 1) * 2 ^ (8 - (8 * b.length - n)) % 256 = 0 then 0 else 3) else 0
end Go.Proofs.YtfpnoceppjjafaaDoor.P

/- Bits as lists of 0 and 1: what the bytes of the bit writer and the bit reader are. -/
namespace Go.Proofs.YtfpnoceppjjafaaDoor.P
open Go.RowKit Go.Proofs.YtfpnoceppjjafaaDoor.Kit Go.Proofs.YtfpnoceppjjafaaDoorW.PrintWords Go.Proofs.YtfpnoceppjjafaaDoorW.PrintLast Go.Proofs.YtfpnoceppjjafaaDoorW.PrintMore
set_option linter.unusedVariables false
set_option linter.unusedSimpArgs false

/-- The w lowest bits of v, the highest first. -/
def bitsOf : Nat → Int → List Int
  | 0, _ => []
  | w + 1, v => v / 2 ^ w % 2 :: bitsOf w v
def is01 (k : List Int) : Prop := ∀ x ∈ k, x = 0 ∨ x = 1
def isBy (b : List Int) : Prop := ∀ x ∈ b, 0 ≤ x ∧ x < 256
def bg (k : List Int) (i : Nat) : Int := k.getD i 0
def byteAt (k : List Int) (i : Nat) : Int := bg k (8 * i) * 128 + bg k (8 * i + 1) * 64 + bg k (8 * i + 2) * 32 + bg k (8 * i + 3) * 16 + bg k (8 * i + 4) * 8 + bg k (8 * i + 5) * 4 + bg k (8 * i + 6) * 2 + bg k (8 * i + 7)
/-- Bits as bytes; the last byte is filled up with 0. -/
def pack (k : List Int) : List Int := (List.range ((k.length + 7) / 8)).map (byteAt k)
/-- The bits of bytes. -/
def unpack (b : List Int) : List Int := b.flatMap (bitsOf 8)
/-- Bits as a number, behind a. -/
def valL (a : Int) (l : List Int) : Int := l.foldl (fun a x => a * 2 + x) a
/-- Is nothing left but what fills a byte? -/
def endL (l : List Int) : Int := if 8 ≤ l.length then 3 else if ∀ x ∈ l, x = 0 then 0 else 3

theorem bitsOf_length (w : Nat) (v : Int) : (bitsOf w v).length = w := by
  induction w with
  | zero => rfl
  | succ w ih => simp [bitsOf, ih]
theorem bitsOf_01 (w : Nat) (v : Int) : is01 (bitsOf w v) := by
  induction w with
  | zero => intro x hx; simp [bitsOf] at hx
  | succ w ih =>
    intro x hx
    simp only [bitsOf, List.mem_cons] at hx
    rcases hx with rfl | hx
    · omega
    · exact ih x hx
theorem is01_nil : is01 [] := fun x hx => by simp at hx
theorem is01_append {a b : List Int} (ha : is01 a) (hb : is01 b) : is01 (a ++ b) := fun x hx => by
  rcases List.mem_append.1 hx with h | h
  · exact ha x h
  · exact hb x h
theorem is01_drop {a : List Int} (ha : is01 a) (n : Nat) : is01 (a.drop n) := fun x hx => ha x (List.mem_of_mem_drop hx)
theorem is01_take {a : List Int} (ha : is01 a) (n : Nat) : is01 (a.take n) := fun x hx => ha x (List.mem_of_mem_take hx)
theorem bg_out {k : List Int} {i : Nat} (h : k.length ≤ i) : bg k i = 0 := by
  unfold bg
  rw [List.getD_eq_getElem?_getD, List.getElem?_eq_none h]
  rfl
theorem bg01 {k : List Int} (h : is01 k) (i : Nat) : bg k i = 0 ∨ bg k i = 1 := by
  by_cases hi : i < k.length
  · have : bg k i ∈ k := by
      unfold bg
      rw [List.getD_eq_getElem?_getD, List.getElem?_eq_getElem hi]
      exact List.getElem_mem hi
    exact h _ this
  · exact .inl (bg_out (by omega))
theorem bgb {k : List Int} (h : is01 k) (i : Nat) : 0 ≤ bg k i ∧ bg k i ≤ 1 := by
  rcases bg01 h i with e | e <;> omega
theorem bg_left {a b : List Int} {i : Nat} (h : i < a.length) : bg (a ++ b) i = bg a i := by
  unfold bg
  rw [List.getD_eq_getElem?_getD, List.getD_eq_getElem?_getD, List.getElem?_append_left h]
theorem bg_right {a b : List Int} {i : Nat} (h : a.length ≤ i) : bg (a ++ b) i = bg b (i - a.length) := by
  unfold bg
  rw [List.getD_eq_getElem?_getD, List.getD_eq_getElem?_getD, List.getElem?_append_right h]
theorem bg_snoc (k : List Int) (x : Int) (j : Nat) : bg (k ++ [x]) j = if j = k.length then x else bg k j := by
  by_cases h : j < k.length
  · rw [bg_left h, if_neg (by omega)]
  · rw [bg_right (by omega)]
    by_cases h2 : j = k.length
    · subst h2
      simp [bg]
    · rw [if_neg h2, bg_out (k := k) (by omega), bg_out (by simp; omega)]
theorem bg_rd (k : List Int) (i : Nat) : rd k (i : Int) = bg k i := by simp [rd, bg]
theorem byteAt_bd {k : List Int} (h : is01 k) (i : Nat) : 0 ≤ byteAt k i ∧ byteAt k i < 256 := by
  have h0 := bgb h (8 * i)
  have h1 := bgb h (8 * i + 1)
  have h2 := bgb h (8 * i + 2)
  have h3 := bgb h (8 * i + 3)
  have h4 := bgb h (8 * i + 4)
  have h5 := bgb h (8 * i + 5)
  have h6 := bgb h (8 * i + 6)
  have h7 := bgb h (8 * i + 7)
  unfold byteAt
  omega
theorem pack_length (k : List Int) : (pack k).length = (k.length + 7) / 8 := by simp [pack]
theorem pack_bg (k : List Int) (i : Nat) : bg (pack k) i = byteAt k i := by
  by_cases h : i < (k.length + 7) / 8
  · simp [bg, pack, List.getD_eq_getElem?_getD, h]
  · rw [bg_out (by rw [pack_length]; omega)]
    unfold byteAt
    rw [bg_out (by omega), bg_out (by omega), bg_out (by omega), bg_out (by omega), bg_out (by omega), bg_out (by omega), bg_out (by omega), bg_out (by omega)]
    rfl
theorem pack_by {k : List Int} (h : is01 k) : isBy (pack k) := by
  intro x hx
  simp only [pack, List.mem_map] at hx
  obtain ⟨i, _, rfl⟩ := hx
  exact byteAt_bd h i
theorem ext_bg {a b : List Int} (hl : a.length = b.length) (h : ∀ i, i < a.length → bg a i = bg b i) : a = b := ext_rd hl fun i hi => by rw [bg_rd, bg_rd, h i hi]
theorem or8 (o : Int) (h0 : 0 ≤ o) (h1 : o < 256) (r : Nat) (hr : r < 8) (x : Int) (hx : x = 0 ∨ x = 1) (hm : o % 2 ^ (8 - r) = 0) : Go.bits .or .u8 o (x * 2 ^ (7 - r)) = o + x * 2 ^ (7 - r) := by
  obtain ⟨n, rfl⟩ := Int.eq_ofNat_of_zero_le h0
  have key : ∀ (r : Fin 8) (n : Fin 256) (x : Fin 2), ((n : Nat) : Int) % 2 ^ (8 - (r : Nat)) = 0 → Go.bits .or .u8 ((n : Nat) : Int) (((x : Nat) : Int) * 2 ^ (7 - (r : Nat))) = ((n : Nat) : Int) + ((x : Nat) : Int) * 2 ^ (7 - (r : Nat)) := by decide +kernel
  rcases hx with rfl | rfl
  · exact key ⟨r, hr⟩ ⟨n, by omega⟩ 0 hm
  · exact key ⟨r, hr⟩ ⟨n, by omega⟩ 1 hm
theorem putBit_pack (k : List Int) (x : Int) (h01 : is01 k) (hx : x = 0 ∨ x = 1) : putBit (pack k) k.length x = pack (k ++ [x]) := by
  have hl : (if k.length % 8 = 0 then pack k ++ [0] else pack k).length = k.length / 8 + 1 := by
    split
    · rw [List.length_append, pack_length, List.length_singleton]
      omega
    · rw [pack_length]
      omega
  have hb : ∀ i, bg (if k.length % 8 = 0 then pack k ++ [0] else pack k) i = byteAt k i := by
    intro i
    split
    · rw [bg_snoc, pack_bg]
      split
      · next e =>
        rw [pack_length] at e
        unfold byteAt
        rw [bg_out (by omega), bg_out (by omega), bg_out (by omega), bg_out (by omega), bg_out (by omega), bg_out (by omega), bg_out (by omega), bg_out (by omega)]
        rfl
      · rfl
    · exact pack_bg k i
  unfold putBit
  generalize (if k.length % 8 = 0 then pack k ++ [0] else pack k) = q at hl hb
  refine ext_bg (by rw [List.length_set, hl, pack_length, List.length_append, List.length_singleton]; omega) fun i hi => ?_
  rw [List.length_set, hl] at hi
  rw [pack_bg]
  by_cases hi2 : i = k.length / 8
  · subst hi2
    rw [bg_rd, hb, show bg (q.set (k.length / 8) (Go.bits .or .u8 (byteAt k (k.length / 8)) (x * 2 ^ (7 - k.length % 8)))) (k.length / 8) = Go.bits .or .u8 (byteAt k (k.length / 8)) (x * 2 ^ (7 - k.length % 8)) by
      simp [bg, List.getD_eq_getElem?_getD, hl]]
    obtain ⟨m, r, hn, hr⟩ : ∃ m r, k.length = 8 * m + r ∧ r < 8 := ⟨k.length / 8, k.length % 8, by omega, by omega⟩
    have e1 : k.length / 8 = m := by omega
    have e2 : k.length % 8 = r := by omega
    rw [e1, e2]
    have hz : ∀ j, r ≤ j → bg k (8 * m + j) = 0 := fun j hj => bg_out (by omega)
    have ho := byteAt_bd h01 m
    rw [or8 _ ho.1 ho.2 r hr x hx ?_]
    · unfold byteAt
      simp only [bg_snoc, hn]
      have hz0 := hz 0
      have hz1 := hz 1
      have hz2 := hz 2
      have hz3 := hz 3
      have hz4 := hz 4
      have hz5 := hz 5
      have hz6 := hz 6
      have hz7 := hz 7
      clear hz ho
      obtain rfl | rfl | rfl | rfl | rfl | rfl | rfl | rfl : r = 0 ∨ r = 1 ∨ r = 2 ∨ r = 3 ∨ r = 4 ∨ r = 5 ∨ r = 6 ∨ r = 7 := by omega
      all_goals (simp at *; omega)
    · have hz0 := hz 0
      have hz1 := hz 1
      have hz2 := hz 2
      have hz3 := hz 3
      have hz4 := hz 4
      have hz5 := hz 5
      have hz6 := hz 6
      have hz7 := hz 7
      unfold byteAt
      clear hz ho
      obtain rfl | rfl | rfl | rfl | rfl | rfl | rfl | rfl : r = 0 ∨ r = 1 ∨ r = 2 ∨ r = 3 ∨ r = 4 ∨ r = 5 ∨ r = 6 ∨ r = 7 := by omega
      all_goals (simp at *; omega)
  · rw [show bg (q.set (k.length / 8) (Go.bits .or .u8 (rd q ((k.length / 8 : Nat) : Int)) (x * 2 ^ (7 - k.length % 8)))) i = bg q i by
      simp [bg, List.getD_eq_getElem?_getD, List.getElem?_set, Ne.symm hi2], hb]
    unfold byteAt
    rw [bg_left (by omega), bg_left (by omega), bg_left (by omega), bg_left (by omega), bg_left (by omega), bg_left (by omega), bg_left (by omega), bg_left (by omega)]
theorem putBits_pack (w : Nat) (v : Int) : ∀ (d : Nat) (k : List Int), d ≤ w → is01 k → putBits d v w (pack k) k.length = pack (k ++ bitsOf d v) := by
  intro d
  induction d with
  | zero => intro k _ _; simp [putBits, bitsOf]
  | succ d ih =>
    intro k hd hk
    have hx : v / 2 ^ d % 2 = 0 ∨ v / 2 ^ d % 2 = 1 := by omega
    rw [putBits, show w - 1 - (w - (d + 1)) = d by omega, putBit_pack k _ hk hx]
    have := ih (k ++ [v / 2 ^ d % 2]) (by omega) (is01_append hk (by intro x h; simp at h; omega))
    rw [List.length_append, List.length_singleton] at this
    rw [this, bitsOf]
    simp
theorem unpack_cons (x : Int) (b : List Int) : unpack (x :: b) = bitsOf 8 x ++ unpack b := by simp [unpack]
theorem unpack_append (a b : List Int) : unpack (a ++ b) = unpack a ++ unpack b := by simp [unpack]
theorem unpack_length (b : List Int) : (unpack b).length = 8 * b.length := by
  induction b with
  | nil => rfl
  | cons x b ih =>
    rw [unpack_cons, List.length_append, bitsOf_length, ih, List.length_cons]
    omega
theorem unpack_01 (b : List Int) : is01 (unpack b) := by
  induction b with
  | nil => exact is01_nil
  | cons x b ih =>
    rw [unpack_cons]
    exact is01_append (bitsOf_01 8 x) ih
theorem bits8_bg (x : Int) (n : Nat) (h : n < 8) : bg (bitsOf 8 x) n = x / 2 ^ (7 - n) % 2 := by
  obtain rfl | rfl | rfl | rfl | rfl | rfl | rfl | rfl : n = 0 ∨ n = 1 ∨ n = 2 ∨ n = 3 ∨ n = 4 ∨ n = 5 ∨ n = 6 ∨ n = 7 := by omega
  all_goals simp [bg, bitsOf]
theorem unpack_bg (b : List Int) : ∀ n, n < 8 * b.length → bg (unpack b) n = bitAt b n := by
  induction b with
  | nil => intro n h; simp at h
  | cons x b ih =>
    intro n h
    rw [unpack_cons]
    by_cases hn : n < 8
    · rw [bg_left (by rw [bitsOf_length]; exact hn), bits8_bg x n hn]
      unfold bitAt
      rw [show n / 8 = 0 by omega, show n % 8 = n by omega]
      simp [rd]
    · rw [List.length_cons] at h
      rw [bg_right (by rw [bitsOf_length]; omega), bitsOf_length, ih (n - 8) (by omega)]
      unfold bitAt
      rw [rd_nat, rd_nat, show n / 8 = (n - 8) / 8 + 1 by omega, List.getD_cons_succ, show (n - 8) % 8 = n % 8 by omega]
theorem drop_bg {l : List Int} {n : Nat} (h : n < l.length) : l.drop n = bg l n :: l.drop (n + 1) := by
  rw [List.drop_eq_getElem_cons h]
  congr 1
  simp [bg, List.getD_eq_getElem?_getD, List.getElem?_eq_getElem h]
theorem getBits_val (b : List Int) : ∀ (d : Nat) (v : Int) (n : Nat), n + d ≤ 8 * b.length → getBits d v b n = valL v (((unpack b).drop n).take d) := by
  intro d
  induction d with
  | zero => intro v n _; simp [getBits, valL]
  | succ d ih =>
    intro v n h
    have hn : n < (unpack b).length := by rw [unpack_length]; omega
    rw [getBits, ih _ _ (by omega), drop_bg hn, List.take_succ_cons, unpack_bg b n (by omega)]
    rfl
theorem valL_append (a : Int) (l m : List Int) : valL a (l ++ m) = valL (valL a l) m := by simp [valL]
theorem valL_cons (a x : Int) (m : List Int) : valL a (x :: m) = valL (a * 2 + x) m := rfl
theorem emod_split (v a b : Int) (ha : 0 < a) : v % (a * b) = v / a % b * a + v % a := by
  rw [Int.emod_def v (a * b), Int.emod_def (v / a) b, Int.emod_def v a, ← Int.ediv_ediv_of_nonneg (by omega), Int.sub_mul, show a * b * (v / a / b) = b * (v / a / b) * a by ac_rfl, Int.mul_comm (v / a) a]
  omega
theorem valL_bits (w : Nat) (v : Int) : ∀ (d : Nat) (a : Int), valL a (bitsOf d v) = a * 2 ^ d + v % 2 ^ d := by
  intro d
  induction d with
  | zero => intro a; simp [bitsOf, valL]
  | succ d ih =>
    intro a
    rw [bitsOf, valL_cons, ih]
    have hp : (0 : Int) < 2 ^ d := Int.pow_pos (by decide)
    have h1 : v % 2 ^ (d + 1) = v / 2 ^ d % 2 * 2 ^ d + v % 2 ^ d := by
      rw [Int.pow_succ, emod_split _ _ _ hp]
    rw [h1, Int.pow_succ, Int.add_mul, Int.mul_assoc, Int.mul_comm 2 (2 ^ d)]
    omega
theorem valL_of_bits {w : Nat} {v : Int} (h0 : 0 ≤ v) (h : v < 2 ^ w) : valL 0 (bitsOf w v) = v := by
  rw [valL_bits w, Int.emod_eq_of_lt h0 h]
  omega
theorem valL_lin (l : List Int) : ∀ a : Int, valL a l = a * 2 ^ l.length + valL 0 l := by
  induction l with
  | nil => intro a; simp [valL]
  | cons x l ih =>
    intro a
    rw [valL_cons, valL_cons, ih (a * 2 + x), ih (0 * 2 + x), List.length_cons, Int.pow_succ, Int.add_mul, Int.add_mul, Int.mul_assoc, Int.mul_comm 2 (2 ^ l.length)]
    omega
theorem valL_bd {l : List Int} (h : is01 l) : 0 ≤ valL 0 l ∧ valL 0 l < 2 ^ l.length := by
  induction l with
  | nil => simp [valL]
  | cons x l ih =>
    have h1 := ih fun y hy => h y (List.mem_cons_of_mem _ hy)
    have h2 := h x List.mem_cons_self
    rw [valL_cons, valL_lin, List.length_cons, Int.pow_succ]
    rcases h2 with rfl | rfl <;> omega
theorem bitsOf_mod (d : Nat) (v : Int) : ∀ m, d ≤ m → bitsOf d (v % 2 ^ m) = bitsOf d v := by
  induction d with
  | zero => intro m _; rfl
  | succ d ih =>
    intro m hm
    rw [bitsOf, bitsOf, ih m (by omega)]
    congr 1
    obtain ⟨c, rfl⟩ : ∃ c, m = d + 1 + c := ⟨m - (d + 1), by omega⟩
    have hp : (0 : Int) < 2 ^ d := Int.pow_pos (by decide)
    have e1 : (2 : Int) ^ (d + 1 + c) = 2 ^ d * (2 * 2 ^ c) := by rw [Int.pow_add, Int.pow_succ, Int.mul_assoc]
    rw [e1, emod_split _ _ _ hp, Int.add_comm, Int.add_mul_ediv_right _ _ (by omega), Int.ediv_eq_zero_of_lt (Int.emod_nonneg _ (by omega)) (Int.emod_lt_of_pos _ hp), Int.zero_add, Int.emod_emod_of_dvd _ ⟨_, rfl⟩]
theorem bitsOf_val {l : List Int} (h : is01 l) : bitsOf l.length (valL 0 l) = l := by
  induction l with
  | nil => rfl
  | cons x l ih =>
    have hl : is01 l := fun y hy => h y (List.mem_cons_of_mem _ hy)
    have h2 := h x List.mem_cons_self
    have hb := valL_bd hl
    have hp : (0 : Int) < 2 ^ l.length := Int.pow_pos (by decide)
    have e : valL 0 (x :: l) = x * 2 ^ l.length + valL 0 l := by
      rw [valL_cons, valL_lin]
      congr 2
      omega
    rw [List.length_cons, bitsOf, e]
    congr 1
    · rw [Int.add_comm, Int.add_mul_ediv_right _ _ (by omega), Int.ediv_eq_zero_of_lt hb.1 hb.2]
      omega
    · rw [← bitsOf_mod l.length _ l.length (Nat.le_refl _), Int.add_comm, Int.add_mul_emod_self_right, Int.emod_eq_of_lt hb.1 hb.2]
      exact ih hl
theorem byteAt_unpack {b : List Int} (hb : isBy b) (i : Nat) (hi : i < b.length) : byteAt (unpack b) i = bg b i := by
  have hx : 0 ≤ bg b i ∧ bg b i < 256 := hb _ (by
    unfold bg
    rw [List.getD_eq_getElem?_getD, List.getElem?_eq_getElem hi]
    exact List.getElem_mem hi)
  unfold byteAt
  rw [unpack_bg b _ (by omega), unpack_bg b _ (by omega), unpack_bg b _ (by omega), unpack_bg b _ (by omega), unpack_bg b _ (by omega), unpack_bg b _ (by omega), unpack_bg b _ (by omega), unpack_bg b _ (by omega)]
  unfold bitAt
  rw [show 8 * i / 8 = i by omega, show (8 * i + 1) / 8 = i by omega, show (8 * i + 2) / 8 = i by omega, show (8 * i + 3) / 8 = i by omega, show (8 * i + 4) / 8 = i by omega, show (8 * i + 5) / 8 = i by omega, show (8 * i + 6) / 8 = i by omega, show (8 * i + 7) / 8 = i by omega]
  rw [show 8 * i % 8 = 0 by omega, show (8 * i + 1) % 8 = 1 by omega, show (8 * i + 2) % 8 = 2 by omega, show (8 * i + 3) % 8 = 3 by omega, show (8 * i + 4) % 8 = 4 by omega, show (8 * i + 5) % 8 = 5 by omega, show (8 * i + 6) % 8 = 6 by omega, show (8 * i + 7) % 8 = 7 by omega]
  rw [bg_rd]
  simp only [Nat.sub_zero, Nat.reduceSub, Int.reducePow]
  omega
theorem pack_unpack {b : List Int} (hb : isBy b) : pack (unpack b) = b := by
  have hl : (pack (unpack b)).length = b.length := by
    rw [pack_length, unpack_length]
    omega
  refine ext_bg hl fun i hi => ?_
  rw [pack_bg, byteAt_unpack hb i (by omega)]
theorem bitAt_pack {k : List Int} (h : is01 k) (n : Nat) : bitAt (pack k) n = bg k n := by
  unfold bitAt
  rw [bg_rd, pack_bg]
  obtain ⟨m, r, hn, hr⟩ : ∃ m r, n = 8 * m + r ∧ r < 8 := ⟨n / 8, n % 8, by omega, by omega⟩
  have e1 : n / 8 = m := by omega
  have e2 : n % 8 = r := by omega
  rw [e1, e2, hn]
  have h0 := bgb h (8 * m)
  have h1 := bgb h (8 * m + 1)
  have h2 := bgb h (8 * m + 2)
  have h3 := bgb h (8 * m + 3)
  have h4 := bgb h (8 * m + 4)
  have h5 := bgb h (8 * m + 5)
  have h6 := bgb h (8 * m + 6)
  have h7 := bgb h (8 * m + 7)
  unfold byteAt
  obtain rfl | rfl | rfl | rfl | rfl | rfl | rfl | rfl : r = 0 ∨ r = 1 ∨ r = 2 ∨ r = 3 ∨ r = 4 ∨ r = 5 ∨ r = 6 ∨ r = 7 := by omega
  all_goals (simp only [Nat.sub_zero, Nat.reduceSub, Int.reducePow, Nat.add_zero]; omega)
theorem unpack_pack {k : List Int} (h : is01 k) : unpack (pack k) = k ++ List.replicate (8 * ((k.length + 7) / 8) - k.length) 0 := by
  refine ext_bg (by rw [unpack_length, pack_length, List.length_append, List.length_replicate]; omega) fun i hi => ?_
  rw [unpack_length] at hi
  rw [unpack_bg _ i hi, bitAt_pack h]
  by_cases hi2 : i < k.length
  · rw [bg_left hi2]
  · rw [bg_right (by omega), bg_out (by omega)]
    unfold bg
    rw [List.getD_eq_getElem?_getD, List.getElem?_replicate]
    split <;> rfl
theorem pack_inj {k l : List Int} (hk : is01 k) (hl : is01 l) (hn : k.length = l.length) (h : pack k = pack l) : k = l := by
  have h1 := unpack_pack hk
  rw [h, unpack_pack hl, hn] at h1
  exact (List.append_inj h1 hn.symm).1.symm
theorem bits_zero (w : Nat) (v : Int) : (∀ x ∈ bitsOf w v, x = 0) ↔ v % 2 ^ w = 0 := by
  constructor
  · intro h
    have h1 := valL_bits w v w 0
    have h2 : ∀ (l : List Int), (∀ x ∈ l, x = 0) → valL 0 l = 0 := by
      intro l
      induction l with
      | nil => intro _; rfl
      | cons x l ih =>
        intro h
        rw [valL_cons, h x List.mem_cons_self]
        exact ih fun y hy => h y (List.mem_cons_of_mem _ hy)
    rw [h2 _ h] at h1
    omega
  · intro h x hx
    rw [← bitsOf_mod w v w (Nat.le_refl _), h] at hx
    have : ∀ d, ∀ x ∈ bitsOf d 0, x = 0 := by
      intro d
      induction d with
      | zero => intro x hx; simp [bitsOf] at hx
      | succ d ih =>
        intro x hx
        simp only [bitsOf, List.mem_cons] at hx
        rcases hx with rfl | hx
        · simp
        · exact ih x hx
    exact this w x hx
theorem endOf_endL (b : List Int) (hb : isBy b) (n : Nat) (hn : n ≤ 8 * b.length) : endOf b n = endL ((unpack b).drop n) := by
  unfold endOf endL
  rw [List.length_drop, unpack_length]
  by_cases h8 : 8 ≤ 8 * b.length - n
  · rw [if_pos h8, if_pos h8]
  · rw [if_neg h8, if_neg h8]
    by_cases h0 : 0 < 8 * b.length - n
    · rw [if_pos h0]
      obtain ⟨c, x, rfl⟩ : ∃ c x, b = c ++ [x] := ⟨b.dropLast, b.getLast (by intro e; subst e; simp at h0), (List.dropLast_concat_getLast _).symm⟩
      rw [List.length_append, List.length_singleton] at *
      obtain ⟨L, hL⟩ : ∃ L, 8 * (c.length + 1) - n = L := ⟨_, rfl⟩
      have hx := hb x (by simp)
      have e1 : rd (c ++ [x]) (((c.length + 1 : Nat) : Int) - 1) = x := rd_mid c x [] _ (by omega)
      have e2 : (unpack (c ++ [x])).drop n = bitsOf L x := by
        rw [unpack_append, List.drop_append, unpack_length, List.drop_eq_nil_of_le (by rw [unpack_length]; omega), List.nil_append, show n - 8 * c.length = 8 - L by omega]
        rw [unpack_cons, show unpack [] = [] from rfl, List.append_nil]
        have : L < 8 := by omega
        obtain rfl | rfl | rfl | rfl | rfl | rfl | rfl : L = 1 ∨ L = 2 ∨ L = 3 ∨ L = 4 ∨ L = 5 ∨ L = 6 ∨ L = 7 := by omega
        all_goals rfl
      rw [e1, e2, hL]
      have h3 : x * 2 ^ (8 - L) % 256 = 0 ↔ x % 2 ^ L = 0 := by
        obtain rfl | rfl | rfl | rfl | rfl | rfl | rfl : L = 1 ∨ L = 2 ∨ L = 3 ∨ L = 4 ∨ L = 5 ∨ L = 6 ∨ L = 7 := by omega
        all_goals (simp only [Nat.reduceSub, Int.reducePow]; omega)
      by_cases h4 : x % 2 ^ L = 0
      · rw [if_pos (h3.2 h4), if_pos ((bits_zero L x).2 h4)]
      · rw [if_neg (fun h => h4 (h3.1 h)), if_neg (fun h => h4 ((bits_zero L x).1 h))]
    · rw [if_neg h0, List.drop_eq_nil_of_le (by rw [unpack_length]; omega)]
      simp
end Go.Proofs.YtfpnoceppjjafaaDoor.P

/- The bit writer as a state of the printed functions: its methods in the printed form. -/
namespace Go.Proofs.YtfpnoceppjjafaaDoor.P
open Go.RowKit Go.Proofs.YtfpnoceppjjafaaDoor.Kit Go.Proofs.YtfpnoceppjjafaaDoorW.PrintWords Go.Proofs.YtfpnoceppjjafaaDoorW.PrintLast Go.Proofs.YtfpnoceppjjafaaDoorW.PrintMore
set_option linter.unusedVariables false
set_option linter.unusedSimpArgs false

/-- A writer at block g of W with these bits. -/
def IsS40 (w0 W : World) (g : Nat) (f0 : List Int) : Prop := ∃ b n, Wr W w0.heap.size (fun _ => True) g b n ∧ is01 f0 ∧ b = pack f0 ∧ n = f0.length
section
variable {w0 W : World} {g : Nat} {f0 : List Int}
theorem IsS40.below {W1 : World} (h : IsS40 w0 W g f0) (hw : Below W.heap.size W W1) : IsS40 w0 W1 g f0 := by
  obtain ⟨b, n, ⟨v, hg, hb, hr⟩, hx⟩ := h
  exact ⟨b, n, ⟨v, blk_below hg hw, hb, Kd.R_below hr hw⟩, hx⟩
theorem IsS40.alloc (h : IsS40 w0 W g f0) (o : Obj) : IsS40 w0 (W.alloc o) g f0 := h.below (below_alloc (Below.refl _ _) o)
theorem IsS40.drewN (h : IsS40 w0 W g f0) (m : Nat) : IsS40 w0 (W.drewN m) g f0 := h.below (pw_below_drewN (Below.refl _ _) m)
theorem IsS40.drew (h : IsS40 w0 W g f0) : IsS40 w0 W.drew g f0 := h.below (below_drew (Below.refl _ _))
theorem IsS40.set_0 : True := trivial
theorem IsS40.at_ {w' : World} {m : Nat} (hq : W.drewN m = w') (h : IsS40 w0 W g f0) : IsS40 w0 w' g f0 := by
  subst hq
  exact h.drewN m
theorem IsS40.ge (h : IsS40 w0 W g f0) : w0.heap.size ≤ g := by
  obtain ⟨b, n, ⟨v, hg, hb, hr⟩, hx⟩ := h
  exact hb
theorem IsS40.lt (h : IsS40 w0 W g f0) : g < W.heap.size := by
  obtain ⟨b, n, ⟨v, hg, hb, hr⟩, hx⟩ := h
  exact blk_lt hg
theorem IsS40.fresh (h : IsS40 w0 W g f0) : ∀ k, W.heap.size ≤ k → k ≠ g := by
  obtain ⟨b, n, ⟨v, hg, hb, hr⟩, hx⟩ := h
  exact Kd.freshB hg
theorem IsS40.apart {α : Type} {d : Kd α} {e : Nat} {base : Nat} {ok : Nat → Prop} {v : Value} {xs : List α} (h : IsS40 w0 W g f0) (ho : d.R e W base ok v xs) (ht : ∀ q, q ∈ e :: d.E → q ≠ 40) : d.R e W base (fun k => ok k ∧ k ≠ g) v xs := by
  obtain ⟨b, n, ⟨u, hg, hb, hr⟩, hx⟩ := h
  exact Kd.R_types ho hg ht
theorem IsS40.apartQ {α : Type} {d : Kd α} {e : Nat} {base : Nat} {ok : Nat → Prop} {v : Value} {xs : List α} (h : IsS40 w0 W g f0) (ho : d.Q e W base ok v xs) (ht : ∀ q, q ∈ e :: d.E → q ≠ 40) : d.Q e W base (fun k => ok k ∧ k ≠ g) v xs := by
  obtain ⟨b, n, ⟨u, hg, hb, hr⟩, hx⟩ := h
  exact Kd.Q_types ho hg ht
/-- The state's own blocks are none of this row's. -/
def Away40 (W : World) (g : Nat) (row : Option Nat) : Prop := some g ≠ row ∧ ∀ (u : Value) (n : Int), W.heap[g]? = some (.cells #[u, .int .i64 n] 40 (0, 0)) → ∀ k, u.ownBlock = some k → some k ≠ row
theorem IsS40.own_ne {α : Type} {d : Kd α} {e : Nat} {base : Nat} {ok : Nat → Prop} {v : Value} {xs : List α} (h : IsS40 w0 W g f0) (ho : d.R e W base ok v xs) (ht : e ≠ 40 ∧ e ≠ 5) : Away40 W g v.ownBlock := by
  obtain ⟨b, n, ⟨u, hg, hb, hr⟩, hx⟩ := h
  refine ⟨Kd.R_ne ho hg ht.1, fun u' n' hq' k hk => ?_⟩
  have e1 := hg.symm.trans hq'
  injection e1 with e1
  injection e1 with e1
  injection e1 with e1
  injection e1 with e1
  subst e1
  obtain ⟨cells, hc⟩ := Kd.R_typed hr k hk
  exact Kd.R_ne ho hc ht.2
/-- What was made since is none of the state's. -/
theorem IsS40.away_new {α : Type} {d : Kd α} {e : Nat} {ok : Nat → Prop} {v : Value} {xs : List α} {W1 : World} (h : IsS40 w0 W g f0) (hw : Below W.heap.size W W1) (ho : d.R e W1 W.heap.size ok v xs) : Away40 W1 g v.ownBlock := by
  obtain ⟨b, n, ⟨u, hg, hb, hr⟩, hx⟩ := h
  have hlt := blk_lt hg
  refine ⟨fun e => ?_, fun u' n' hq' k hk e => ?_⟩
  · have := Kd.R_base ho g e.symm
    omega
  · have e1 := (blk_below hg hw).symm.trans hq'
    injection e1 with e1
    injection e1 with e1
    injection e1 with e1
    injection e1 with e1
    subst e1
    have := Kd.R_lt hr k hk
    have := Kd.R_base ho k e.symm
    omega
theorem IsS40.away_alloc {row : Option Nat} (h : IsS40 w0 W g f0) (hn : Away40 W g row) (o : Obj) : Away40 (W.alloc o) g row := by
  obtain ⟨b, n, ⟨u, hg, hb, hr⟩, hx⟩ := h
  refine ⟨hn.1, fun u' n' hq' k hk => ?_⟩
  have e1 := (blk_below hg (below_alloc (Below.refl _ _) o)).symm.trans hq'
  injection e1 with e1
  injection e1 with e1
  injection e1 with e1
  injection e1 with e1
  subst e1
  exact hn.2 _ _ hg k hk
theorem IsS40.grown {W1 : World} {row : Option Nat} (h : IsS40 w0 W g f0) (hw : W.grownBy W1 row) (hne : Away40 W g row) : IsS40 w0 W1 g f0 := by
  obtain ⟨b, n, ⟨u, hg, hb, hq⟩, hx⟩ := h
  have hn := hne.2 u _ hg
  refine ⟨b, n, ⟨u, blk_grown hg hw hne.1, hb, Kd.R_mono (Kd.R_grown (ok := fun k => (k ≠ g ∧ True) ∧ some k ≠ row) ?_ hw (fun k hk => hk.2)) (fun _ hk => hk.1)⟩, hx⟩
  obtain ⟨h0, inner, hr, hreps⟩ := hq
  exact ⟨fun k hk => ⟨h0 k hk, hn k hk⟩, inner, hr, hreps⟩
end
theorem IsS40.box {w0 W : World} {g : Nat} (hb : W.heap[g]? = some (.cells #[.slice none 0 0, .int .i64 0] 40 (0, 0))) (hge : w0.heap.size ≤ g) : IsS40 w0 W g ([] : List Int) := ⟨[], 0, ⟨_, hb, hge, Kd.R_nil _ _ _ _ _⟩, is01_nil, rfl, rfl⟩
/-- Of what was there only the writer's block and rows of bytes may have changed. -/
def KeepW (w w' : World) (g : Nat) : Prop := w.heap.size ≤ w'.heap.size ∧ ∀ i, i < w.heap.size → i ≠ g → (∀ cells, w.heap[i]? ≠ some (.cells cells 5 (0, 0))) → w'.heap[i]? = w.heap[i]?
theorem IsS40.apartW {w0 W : World} {g : Nat} {f0 : List Int} {α : Type} {d : Kd α} {e : Nat} {base : Nat} {ok : Nat → Prop} {v : Value} {xs : List α} (h : IsS40 w0 W g f0) (ho : d.R e W base ok v xs) (ht : ∀ q, q ∈ e :: d.E → q ≠ 40 ∧ q ≠ 5) : d.R e W base (fun k => ok k ∧ k ≠ g ∧ ∀ cells, W.heap[k]? ≠ some (.cells cells 5 (0, 0))) v xs := by
  obtain ⟨b, n, ⟨u, hg, hb, hq⟩, hx⟩ := h
  refine Kd.R_mono (Kd.R_bound (Kd.R_types ho hg (fun q hq => (ht q hq).1))) (fun k hk => ⟨hk.1.1, hk.1.2, fun cells hc => ?_⟩)
  obtain ⟨q, hq, cells', hc'⟩ := hk.2.2.2
  rw [hc] at hc'
  injection hc' with hc'
  injection hc' with _ h5
  exact (ht q hq).2 h5.symm
theorem R_keepW {w w1 : World} {g : Nat} {α : Type} {d : Kd α} {e : Nat} {base : Nat} {ok : Nat → Prop} {v : Value} {xs : List α} (h : d.R e w base ok v xs) (hk : KeepW w w1 g) (hok : ∀ k, ok k → k ≠ g ∧ ∀ cells, w.heap[k]? ≠ some (.cells cells 5 (0, 0))) : d.R e w1 base ok v xs := Kd.R_step h (fun k ho hlt => hk.2 k hlt (hok k ho).1 (hok k ho).2)
def wPut (s : List Int) (v w : Int) : Int × List Int := if w < 0 ∨ 64 < w ∨ w < (Lib.bitLen v.toNat : Int) then (1, s) else (0, s ++ bitsOf w.toNat v)
def bits_Writer_Put.f (s : List Int) (v w : Int) : Option (Int × List Int) := if s.length + 64 < 16777216 ∧ 0 ≤ v ∧ v ≤ 18446744073709551615 then some (wPut s v w) else none
def bits_Writer_Len.f (s : List Int) : Option (Int × List Int) := some ((s.length : Int), s)
def bits_Writer_Bytes.f (s : List Int) : Option (List Int × List Int) := if s.length < 140737488355328 then some (pack s, s) else none
theorem bits_Writer_Put.calls (g : Nat) (s0_0 : List Int) (a1 a2 : Int) (r1 : Int) (r2 : List Int) (w0 w : World) (hI : IsS40 w0 w g s0_0) (hB : Below w0.heap.size w0 w) (h : bits_Writer_Put.f s0_0 a1 a2 = some (r1, r2)) :
    Calls Tryd.prog 17 #[.pointer (some ⟨g, 0, none⟩), .int .u64 a1, .int .i64 a2] w fun e w' => e = .returned (.int .i64 r1) ∧ IsS40 w0 w' g r2 ∧ Below w0.heap.size w0 w' ∧ KeepW w w' g := by
  unfold bits_Writer_Put.f at h
  split at h
  · next hc =>
    obtain ⟨hn, hv0, hv1⟩ := hc
    injection h with h
    unfold wPut at h
    split at h
    · next h1 =>
      injection h with e1 e2
      subst e1 e2
      refine (Put_bad g a1 a2 w hv0 hv1 h1).mono ?_
      rintro e w' ⟨rfl, ⟨n, rfl⟩⟩
      exact ⟨rfl, hI.drewN n, pw_below_drewN hB n, Nat.le_refl _, fun i hi _ _ => rfl⟩
    · next h1 =>
      obtain ⟨m, rfl⟩ := Int.eq_ofNat_of_zero_le (show 0 ≤ a2 by omega)
      rw [Int.toNat_natCast] at h
      injection h with e1 e2
      subst e1 e2
      obtain ⟨b, n, ⟨vb, hg, hBg, hR⟩, h01, rfl, rfl⟩ := hI
      have hW : Wr w w0.heap.size (fun k => w.heap.size ≤ k ∨ ∃ cells, w.heap[k]? = some (.cells cells 5 (0, 0))) g (pack s0_0) s0_0.length := by
        refine ⟨vb, hg, hBg, ?_⟩
        have hty := Kd.R_typed hR
        obtain ⟨h0, inner, hr, hreps⟩ := hR
        exact ⟨fun k hk => ⟨(h0 k hk).1, .inr (hty k hk)⟩, inner, hr, hreps⟩
      refine (Put_good w0 w _ g (pack s0_0) s0_0.length a1 m hB hW (fun k hk => .inl hk) hv0 hv1 (by omega) (by omega) hn (by rw [pack_length]; omega)).mono ?_
      rintro e w' ⟨rfl, ⟨vb', hg', hBg', hR'⟩, hb, hk⟩
      refine ⟨rfl, ⟨_, _, ⟨vb', hg', hBg', Kd.R_mono hR' (fun k hk => ⟨hk.1, trivial⟩)⟩, is01_append h01 (bitsOf_01 _ _), ?_, ?_⟩, hb, hk.1, fun i hi hne h5 => hk.2 i hi ?_⟩
      · exact putBits_pack m a1 m s0_0 (Nat.le_refl _) h01
      · rw [List.length_append, bitsOf_length]
      · rintro (rfl | h | ⟨cells, h⟩)
        · exact hne rfl
        · omega
        · exact h5 cells h
  · cases h
theorem bits_Writer_Bytes.calls (g : Nat) (s0_0 : List Int) (r1 : List Int) (r2 : List Int) (w0 w : World) (hI : IsS40 w0 w g s0_0) (hB : Below w0.heap.size w0 w) (h : bits_Writer_Bytes.f s0_0 = some (r1, r2)) :
    Calls Tryd.prog 21 #[.pointer (some ⟨g, 0, none⟩)] w fun e w' => ∃ v0_ : Value, e = .returned v0_ ∧ Kd.R (Kd.int .u8) 5 w' w.heap.size (fun _ => True) v0_ r1 ∧ IsS40 w0 w' g r2 ∧ Below w0.heap.size w0 w' ∧ KeepBut w w' g none := by
  unfold bits_Writer_Bytes.f at h
  split at h
  · next hc =>
    injection h with h
    injection h with h1 h2
    subst h1 h2
    obtain ⟨b, n, hW, h01, e1, e2⟩ := id hI
    refine (Bytes_good w w0.heap.size _ g b n hW (by rw [e1, pack_length]; omega)).mono ?_
    rintro e w' ⟨v, rfl, ho, hb⟩
    rw [e1] at ho
    exact ⟨v, rfl, ho, hI.below hb, below_step hB hb, KeepBut.of_below hb _ _⟩
  · cases h
end Go.Proofs.YtfpnoceppjjafaaDoor.P

/- The bit reader as a state of the printed functions: its methods in the printed form. -/
namespace Go.Proofs.YtfpnoceppjjafaaDoor.P
open Go.RowKit Go.Proofs.YtfpnoceppjjafaaDoor.Kit Go.Proofs.YtfpnoceppjjafaaDoorW.PrintWords Go.Proofs.YtfpnoceppjjafaaDoorW.PrintLast Go.Proofs.YtfpnoceppjjafaaDoorW.PrintMore
set_option linter.unusedVariables false
set_option linter.unusedSimpArgs false

/-- A reader at block g of W with these bits left. -/
def IsS70 (w0 W : World) (g : Nat) (f0 : List Int) : Prop := ∃ b n, Rd W w0.heap.size (fun _ => True) g b n ∧ isBy b ∧ b.length < 2097152 ∧ n ≤ 8 * b.length ∧ f0 = (unpack b).drop n
section
variable {w0 W : World} {g : Nat} {f0 : List Int}
theorem IsS70.below {W1 : World} (h : IsS70 w0 W g f0) (hw : Below W.heap.size W W1) : IsS70 w0 W1 g f0 := by
  obtain ⟨b, n, ⟨v, hg, hb, hr⟩, hx⟩ := h
  exact ⟨b, n, ⟨v, blk_below hg hw, hb, Kd.R_below hr hw⟩, hx⟩
theorem IsS70.alloc (h : IsS70 w0 W g f0) (o : Obj) : IsS70 w0 (W.alloc o) g f0 := h.below (below_alloc (Below.refl _ _) o)
theorem IsS70.drewN (h : IsS70 w0 W g f0) (m : Nat) : IsS70 w0 (W.drewN m) g f0 := h.below (pw_below_drewN (Below.refl _ _) m)
theorem IsS70.drew (h : IsS70 w0 W g f0) : IsS70 w0 W.drew g f0 := h.below (below_drew (Below.refl _ _))
theorem IsS70.set_0 : True := trivial
theorem IsS70.at_ {w' : World} {m : Nat} (hq : W.drewN m = w') (h : IsS70 w0 W g f0) : IsS70 w0 w' g f0 := by
  subst hq
  exact h.drewN m
theorem IsS70.ge (h : IsS70 w0 W g f0) : w0.heap.size ≤ g := by
  obtain ⟨b, n, ⟨v, hg, hb, hr⟩, hx⟩ := h
  exact hb
theorem IsS70.lt (h : IsS70 w0 W g f0) : g < W.heap.size := by
  obtain ⟨b, n, ⟨v, hg, hb, hr⟩, hx⟩ := h
  exact blk_lt hg
theorem IsS70.fresh (h : IsS70 w0 W g f0) : ∀ k, W.heap.size ≤ k → k ≠ g := by
  obtain ⟨b, n, ⟨v, hg, hb, hr⟩, hx⟩ := h
  exact Kd.freshB hg
theorem IsS70.apart {α : Type} {d : Kd α} {e : Nat} {base : Nat} {ok : Nat → Prop} {v : Value} {xs : List α} (h : IsS70 w0 W g f0) (ho : d.R e W base ok v xs) (ht : ∀ q, q ∈ e :: d.E → q ≠ 70) : d.R e W base (fun k => ok k ∧ k ≠ g) v xs := by
  obtain ⟨b, n, ⟨u, hg, hb, hr⟩, hx⟩ := h
  exact Kd.R_types ho hg ht
theorem IsS70.apartQ {α : Type} {d : Kd α} {e : Nat} {base : Nat} {ok : Nat → Prop} {v : Value} {xs : List α} (h : IsS70 w0 W g f0) (ho : d.Q e W base ok v xs) (ht : ∀ q, q ∈ e :: d.E → q ≠ 70) : d.Q e W base (fun k => ok k ∧ k ≠ g) v xs := by
  obtain ⟨b, n, ⟨u, hg, hb, hr⟩, hx⟩ := h
  exact Kd.Q_types ho hg ht
/-- The state's own blocks are none of this row's. -/
def Away70 (W : World) (g : Nat) (row : Option Nat) : Prop := some g ≠ row ∧ ∀ (b : List Int) (B : Nat) (ok : Nat → Prop) (v : Value), Kd.R (Kd.int .u8) 5 W B ok v b → ∀ k, v.ownBlock = some k → some k ≠ row
theorem IsS70.own_ne {α : Type} {d : Kd α} {e : Nat} {base : Nat} {ok : Nat → Prop} {v : Value} {xs : List α} (h : IsS70 w0 W g f0) (ho : d.R e W base ok v xs) (ht : e ≠ 70 ∧ e ≠ 5) : Away70 W g v.ownBlock := by
  obtain ⟨b, n, ⟨u, hg, hb, hr⟩, hx⟩ := h
  refine ⟨Kd.R_ne ho hg ht.1, fun b' B ok' u' hq' k hk => ?_⟩
  obtain ⟨cells, hc⟩ := Kd.R_typed hq' k hk
  exact Kd.R_ne ho hc ht.2
theorem IsS70.grown {W1 : World} {row : Option Nat} (h : IsS70 w0 W g f0) (hw : W.grownBy W1 row) (hne : Away70 W g row) : IsS70 w0 W1 g f0 := by
  obtain ⟨b, n, ⟨u, hg, hb, hq⟩, hx⟩ := h
  have hn := hne.2 _ _ _ u hq
  refine ⟨b, n, ⟨u, blk_grown hg hw hne.1, hb, Kd.R_mono (Kd.R_grown (ok := fun k => (k ≠ g ∧ True) ∧ some k ≠ row) ?_ hw (fun k hk => hk.2)) (fun _ hk => hk.1)⟩, hx⟩
  obtain ⟨h0, inner, hr, hreps⟩ := hq
  exact ⟨fun k hk => ⟨h0 k hk, hn k hk⟩, inner, hr, hreps⟩
end
def bits_NewReader.f (l0 : List Int) : Option (List Int) := if (∀ x ∈ l0, 0 ≤ x ∧ x < 256) ∧ l0.length < 2097152 then some (unpack l0) else none
def rGet (l : List Int) (w : Int) : Int × Int × List Int := if w < 0 ∨ 64 < w then (0, 1, l) else if l.length < w.toNat then (0, 2, l) else (valL 0 (l.take w.toNat), 0, l.drop w.toNat)
def bits_Reader_Get.f (s : List Int) (w : Int) : Option (Int × Int × List Int) := some (rGet s w)
def bits_Reader_Left.f (s : List Int) : Option (Int × List Int) := some ((s.length : Int), s)
def bits_Reader_End.f (s : List Int) : Option (Int × List Int) := some (endL s, s)
theorem Rd.drew {w0 W W' : World} {g : Nat} {s : List Int} (h : IsS70 w0 W g s) (hB : Below w0.heap.size w0 W) (hd : Drawn0 W W') : IsS70 w0 W' g s ∧ Below w0.heap.size w0 W' ∧ KeepBut W W' g none := by
  obtain ⟨n, rfl⟩ := hd.out
  exact ⟨h.drewN n, pw_below_drewN hB n, Nat.le_refl _, fun i hi hne _ => rfl⟩
theorem bits_NewReader.calls (A0 : Option Addr) (c0 : Nat) (l0 : List Int) (r : List Int) (w0 w : World) (hB : Below w0.heap.size w0 w) (hr0 : Kd.C (Kd.int .u8) w A0 l0.length l0) (hc0 : l0.length ≤ c0) (h : bits_NewReader.f l0 = some r) :
    Calls Tryd.prog 27 #[.slice A0 l0.length c0] w fun e w' => ∃ g_ : Nat, e = .returned (.pointer (some ⟨g_, 0, none⟩)) ∧ IsS70 w0 w' g_ r ∧ Below w0.heap.size w0 w' ∧ Below w.heap.size w w' := by
  unfold bits_NewReader.f at h
  split at h
  · next hc =>
    injection h with h
    subst h
    refine (NewReader_any w0 w A0 c0 l0 hB hr0 hc0 (by have := hc.2; omega)).mono ?_
    rintro e w' ⟨g, rfl, hcu, _, hb1, hb2⟩
    exact ⟨g, rfl, ⟨l0, 0, ⟨hcu.choose, hcu.choose_spec.1, hcu.choose_spec.2.1, Kd.R_mono hcu.choose_spec.2.2 (fun k hk => ⟨hk.1, trivial⟩)⟩, hc.1, hc.2, by omega, rfl⟩, hb1, hb2⟩
  · cases h
theorem bits_Reader_Get.calls (g : Nat) (s0_0 : List Int) (a1 : Int) (r1 : Int) (r2 : Int) (r3 : List Int) (w0 w : World) (hI : IsS70 w0 w g s0_0) (hB : Below w0.heap.size w0 w) (h : bits_Reader_Get.f s0_0 a1 = some (r1, r2, r3)) :
    Calls Tryd.prog 28 #[.pointer (some ⟨g, 0, none⟩), .int .i64 a1] w fun e w' => e = .returned (.tuple #[.int .u64 r1, .int .i64 r2]) ∧ IsS70 w0 w' g r3 ∧ Below w0.heap.size w0 w' ∧ KeepBut w w' g none := by
  unfold bits_Reader_Get.f at h
  injection h with h
  unfold rGet at h
  obtain ⟨b, n, hR, hby, hl, hn, hx⟩ := id hI
  have hlen : s0_0.length = 8 * b.length - n := by rw [hx, List.length_drop, unpack_length]
  split at h
  · next h1 =>
    injection h with e1 e2
    injection e2 with e2 e3
    subst e1 e2 e3
    refine (Get_bad g a1 w h1).mono ?_
    rintro e w' ⟨rfl, hd⟩
    exact ⟨rfl, Rd.drew hI hB hd⟩
  · next h1 =>
    obtain ⟨m, rfl⟩ := Int.eq_ofNat_of_zero_le (show 0 ≤ a1 by omega)
    rw [Int.toNat_natCast] at h
    split at h
    · next h2 =>
      injection h with e1 e2
      injection e2 with e2 e3
      subst e1 e2 e3
      refine (Get_short w w0.heap.size _ g b n m hR hl hn (by omega) (by omega)).mono ?_
      rintro e w' ⟨rfl, hd⟩
      exact ⟨rfl, Rd.drew hI hB hd⟩
    · next h2 =>
      injection h with e1 e2
      injection e2 with e2 e3
      subst e1 e2 e3
      refine (Get_good w0 w _ g b n m hR hB hl (by omega) (by omega) hby).mono ?_
      rintro e w' ⟨rfl, hr, hb, hk⟩
      refine ⟨?_, ⟨b, n + m, hr, hby, hl, by omega, ?_⟩, hb, hk.1, fun i hi hne _ => hk.2 i hi hne⟩
      · rw [getBits_val b m 0 n (by omega), hx]
      · rw [hx, List.drop_drop]
theorem bits_Reader_Left.calls (g : Nat) (s0_0 : List Int) (r1 : Int) (r2 : List Int) (w0 w : World) (hI : IsS70 w0 w g s0_0) (hB : Below w0.heap.size w0 w) (h : bits_Reader_Left.f s0_0 = some (r1, r2)) :
    Calls Tryd.prog 40 #[.pointer (some ⟨g, 0, none⟩)] w fun e w' => e = .returned (.int .i64 r1) ∧ IsS70 w0 w' g r2 ∧ Below w0.heap.size w0 w' ∧ KeepBut w w' g none := by
  unfold bits_Reader_Left.f at h
  injection h with h
  injection h with h1 h2
  subst h1 h2
  obtain ⟨b, n, hR, hby, hl, hn, hx⟩ := id hI
  refine (Left_good w w0.heap.size _ g b n hR hl hn).mono ?_
  rintro e w' ⟨rfl, hd⟩
  exact ⟨by rw [hx, List.length_drop, unpack_length], Rd.drew hI hB hd⟩
end Go.Proofs.YtfpnoceppjjafaaDoor.P
