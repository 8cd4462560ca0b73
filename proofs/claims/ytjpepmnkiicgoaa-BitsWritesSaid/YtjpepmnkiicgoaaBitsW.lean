/- The bit writer's methods: what the walks of Put, Len and Bytes come to. -/
import Derived.Test.YtjpepmnkiicgoaaPx1
import Derived.Test.YtjpepmnkiicgoaaPx2
import Derived.Test.YtjpepmnkiicgoaaBits
import Derived.OneCell
import Derived.RegionTactic
import Derived.BigRegion
import Derived.Outline
import Derived.Deep.QuietTactic
import Derived.BigQuiet
namespace Go.Proofs.Ytjpepmnkiicgoaa.P
open Go.RowKit Go.Proofs.Ytjpepmnkiicgoaa.Kit Go.Proofs.YtjpepmnkiicgoaaW.PrintWords Go.Proofs.YtjpepmnkiicgoaaW.PrintLast Go.Proofs.YtjpepmnkiicgoaaW.PrintMore
attribute [local go_sem] max2_int min2_int max_two min_two max_three min_three max_four min_four
set_option linter.unusedVariables false
set_option linter.unusedSimpArgs false

/-- A writer at block g of W: the bytes b, n bits of them written; its row is one of 'ok', neither is older than B. -/
def Wr (W : World) (B : Nat) (ok : Nat → Prop) (g : Nat) (b : List Int) (n : Nat) : Prop :=
  ∃ v, W.heap[g]? = some (.cells #[v, .int .i64 (n : Int)] 27 (0, 0)) ∧ B ≤ g ∧ Kd.R (Kd.int .u8) 5 W B (fun k => k ≠ g ∧ ok k) v b
theorem two_cells {W : World} {g t : Nat} {u v : Value} (h : W.heap[g]? = some (.cells #[u, v] t (0, 0))) : W.cell? ⟨g, 0, none⟩ = some u ∧ W.cell? ⟨g, 1, none⟩ = some v ∧ W.frozen? ⟨g, 0, none⟩ = false ∧ W.frozen? ⟨g, 1, none⟩ = false := by
  simp [World.cell?, World.frozen?, h]
theorem wrap64_in {n : Int} (h0 : 0 ≤ n) (h1 : n ≤ 9223372036854775807) : wrap64 n = n := by
  unfold wrap64
  omega
theorem tmod8 (m s : Nat) (hs : s = 7 - m % 8) : wrap64 (7 - Int.tmod (m : Int) 8) = (s : Int) := by
  have e : 7 - Int.tmod (m : Int) 8 = (s : Int) := by
    rw [Int.tmod_eq_emod_of_nonneg (by omega)]
    omega
  rw [e]
  exact wrap64_in (by omega) (by omega)
theorem put_facts (m l : Nat) (hl : m / 8 < l) (hm : (m : Int) < 16777300) : ∃ s : Nat, 0 ≤ (m : Int) / 8 ∧ (m : Int) / 8 < (l : Int) ∧ m / 8 < l ∧ ((m : Int) / 8).toNat = m / 8 ∧ wrap64 ((m : Int) / 8) = (m : Int) / 8 ∧ wrap64 ((m : Int) + 1) = (m : Int) + 1 ∧ wrap64 (7 - Int.tmod (m : Int) 8) = (s : Int) ∧ s ≤ 7 ∧ (s : Int) ≤ 8 ∧ s = 7 - m % 8 :=
  ⟨7 - m % 8, by omega, by omega, hl, by omega, wrap64_in (by omega) (by omega), wrap64_in (by omega) (by omega), tmod8 m _ rfl, by omega, by omega, rfl⟩
def putBit (b : List Int) (n : Nat) (bit : Int) : List Int :=
  (if n % 8 = 0 then b ++ [0] else b).set (n / 8) (Go.bits .or .u8 (rd (if n % 8 = 0 then b ++ [0] else b) ((n / 8 : Nat) : Int)) (bit * 2 ^ (7 - n % 8)))
theorem put_val (m k w : Nat) (v bit val : Int) (b2 : List Int) (s : Nat) (hv0 : 0 ≤ v) (hv1 : v ≤ 18446744073709551615) (hbit : Go.bits .and .u64 (v / 2 ^ (w - 1 - k)) 1 % 256 = bit) (hs : s = 7 - m % 8)
    (hval : Go.bits .or .u8 (rdOf 0 b2 ((m : Int) / 8)) (IntKind.u8.wrap (bit * 2 ^ s)) = val) : val = Go.bits .or .u8 (rd b2 ((m / 8 : Nat) : Int)) (v / 2 ^ (w - 1 - k) % 2 * 2 ^ (7 - m % 8)) := by
  have hp : (0 : Int) < 2 ^ (w - 1 - k) := Int.pow_pos (by decide)
  have h0 : 0 ≤ v / 2 ^ (w - 1 - k) := Int.ediv_nonneg hv0 (by omega)
  have h1 : v / 2 ^ (w - 1 - k) ≤ v := Int.ediv_le_self _ hv0
  rw [k64_and1 _ h0 (by omega)] at hbit
  have e1 : bit = v / 2 ^ (w - 1 - k) % 2 := by omega
  have e2 : IntKind.u8.wrap (bit * 2 ^ s) = v / 2 ^ (w - 1 - k) % 2 * 2 ^ (7 - m % 8) := by
    rw [← e1, ← hs, IntKind.wrap_u8]
    have h2 : bit = 0 ∨ bit = 1 := by omega
    have h3 : ∀ s : Fin 8, (2 : Int) ^ (s : Nat) % 256 = 2 ^ (s : Nat) := by decide +kernel
    have h4 := h3 ⟨s, by omega⟩
    rcases h2 with h2 | h2
    · rw [h2]
      simp
    · rw [h2]
      simpa using h4
  rw [← hval, e2]
  rfl
theorem put_len (m : Nat) (b' b2 : List Int) (val : Int) (h1 : b'.length * 8 ≤ m + 7 ∧ m ≤ b'.length * 8) (h2 : m / 8 < b2.length) (h3 : (if m % 8 = 0 then b' ++ [0] else b') = b2) : (b2.set (m / 8) val).length * 8 ≤ m + 1 + 7 ∧ m + 1 ≤ (b2.set (m / 8) val).length * 8 := by
  have h4 : b2.length = if m % 8 = 0 then b'.length + 1 else b'.length := by
    rw [← h3]
    split <;> simp
  rw [List.length_set]
  split at h4 <;> omega
def putBits : Nat → Int → Nat → List Int → Nat → List Int
  | 0, _, _, b, _ => b
  | d + 1, v, w, b, n => putBits d v w (putBit b n (v / 2 ^ (w - 1 - (w - (d + 1))) % 2)) (n + 1)

set_option maxHeartbeats 1000000 in
set_option maxRecDepth 100000 in
theorem Put_good (w0 W : World) (ok : Nat → Prop) (g : Nat) (b : List Int) (n : Nat) (v : Int) (w : Nat) (hB : Below w0.heap.size w0 W) (h : Wr W w0.heap.size ok g b n) (hok : ∀ k, W.heap.size ≤ k → ok k) (hv0 : 0 ≤ v) (hv1 : v ≤ 18446744073709551615) (hw : w ≤ 64) (hl : Lib.bitLen v.toNat ≤ w) (hn : n + 64 < 16777216) (hb : b.length * 8 ≤ n + 7 ∧ n ≤ b.length * 8) :
    Calls Try.prog 11 #[.pointer (some ⟨g, 0, none⟩), .int .u64 v, .int .i64 (w : Int)] W fun e W' => e = .returned (.int .i64 0) ∧ Wr W' w0.heap.size ok g (putBits w v w b n) (n + w) ∧ Below w0.heap.size w0 W' ∧ Kept W W' (fun k => k = g ∨ ok k) := by
  obtain ⟨vb, hg, hBg, hR⟩ := h
  have hwr : bits_wrong.f (w : Int) = some false := by
    unfold bits_wrong.f
    rw [if_neg (by omega)]
    simp
    omega
  have hwd : bits_Width.f v = some (Lib.bitLen v.toNat : Int) := by
    unfold bits_Width.f bits_Len64.f
    rw [if_pos ⟨hv0, hv1⟩, Option.bind_some]
  have HG := Aside0.mk hg
  have HR := Aside0.mk hR
  have HB := Aside0.mk hB
  have HWR := Aside0.mk hwr
  have HWD := Aside0.mk hwd
  have c1 : decide ((w : Int) < (Lib.bitLen v.toNat : Int)) = false := decide_eq_false (by omega)
  have c2 : decide (w < Lib.bitLen v.toNat) = false := decide_eq_false (by omega)
  clear hg hR hB hwr hwd
  go_enter Try.func11, Try.ntmps11
  go_wp2_with (first | (go_at_call 25; refine (bits_wrong.calls _ _ _ HWR.out).mono ?_; rintro e w1 ⟨rfl, ⟨nd, rfl⟩⟩) | (go_at_call 12; refine (bits_Width.calls _ _ _ HWD.out).mono ?_; rintro e w1 ⟨rfl, ⟨nd2, rfl⟩⟩))
  have hWr : Wr (W.drewN (nd + nd2)) w0.heap.size ok g b n := ⟨vb, HG.out, hBg, HR.out⟩
  have HWr := Aside0.mk hWr
  have HK := Aside0.mk (Kept.refl W (fun k => k = g ∨ ok k))
  have HBd := Aside0.mk hb
  clear hWr HG HR HWR HWD c1 c2 hb
  go_loopg [22] w (fun kq v22 W' => ∃ (k m : Nat) (b' : List Int), v22 = .int .i64 (k : Int) ∧ kq = w - k ∧ k ≤ w ∧ Aside0 (m = n + k) ∧ Aside0 (putBits (w - k) v w b' m = putBits w v w b n) ∧ Aside0 (b'.length * 8 ≤ m + 7 ∧ m ≤ b'.length * 8) ∧ Aside0 (Wr W' w0.heap.size ok g b' m) ∧ Aside0 (Below w0.heap.size w0 W') ∧ Aside0 (Kept W W' (fun k => k = g ∨ ok k)))
  case atStart => exact ⟨0, n, b, rfl, rfl, Nat.zero_le _, ⟨rfl⟩, ⟨rfl⟩, HBd, HWr, ⟨pw_below_drewN HB.out _⟩, ⟨Kept.drewN HK.out _⟩⟩
  case round =>
    clear HWr HB HK HBd
    obtain ⟨k, m, b', rfl, rfl, hk, HM, HP, HBd, HWr, HB, HK⟩ := hrel
    by_cases hlt : k < w
    · have c3 : decide ((k : Int) < (w : Int)) = true := decide_eq_true (by omega)
      have c4 : decide (k < w) = true := decide_eq_true hlt
      obtain ⟨vb', hg', hBg', hR'⟩ := HWr.out
      obtain ⟨A1, q1, e1⟩ := Kd.R_slice hR'
      subst e1
      obtain ⟨x0, x1, f0, f1⟩ := two_cells hg'
      have HG := Aside0.mk hg'
      have HR := Aside0.mk hR'
      clear hg' hR' HWr
      have HM1 := Aside0.mk (show (m : Int) < 16777300 by have := HM.out; omega)
      have HN := Aside0.mk hn
      clear hn
      go_upto_if 30 with (fail)
      go_cut [] (fun wc => ∃ (A2 : Option Addr) (q2 : Nat), Aside0 (wc.heap[g]? = some (.cells #[.slice A2 (if m % 8 = 0 then b' ++ [0] else b').length q2, .int .i64 (m : Int)] 27 (0, 0))) ∧ Aside0 (Kd.R (Kd.int .u8) 5 wc w0.heap.size (fun k => k ≠ g ∧ ok k) (.slice A2 (if m % 8 = 0 then b' ++ [0] else b').length q2) (if m % 8 = 0 then b' ++ [0] else b')) ∧ Aside0 (Below w0.heap.size w0 wc) ∧ Aside0 (Kept W wc (fun k => k = g ∨ ok k)))
      case first =>
        by_cases hz : m % 8 = 0
        · have c5 : ((m : Int) % 8 == 0) = true := beq_iff_eq.2 (by omega)
          have hgr : g < wr.heap.size := lt_of_block HG.out
          have HBD := Aside0.mk (HBd.out)
          have HZ := Aside0.mk hz
          clear hz
          go_wp2_with ((with_reducible refine gate_builtin (b := .append) (xs := #[.tmp 35, .tmp 36]) rfl ?_); at_builtin; refine Kd.R_append (Kd.int .u8) (w0 := w0) w0.heap.size rfl (.tmp 35) (.tmp 36) 25 5 (.int .u8 0) 1 rfl Try.underlying25 info5 rfl (by decide) (by omega) (.slice A1 b'.length q1) b' 0 [.int .u8 0] (fun k => k ≠ g ∧ ok k) (fun _ => False) rfl rfl ?aP (fun _ hk => hk.elim) ?aF ?aO ?aB ?aS ?aL ?_; (case aP => exact rfl); (case aB => exact HB.out); (case aF => exact (fun k hk => ⟨fun e => by omega, hok k (Nat.le_trans HK.out.1 hk)⟩)); (case aO => exact HR.out); (case aS => exact HB.out.size); (case aL => have := HBD.out; have := HM1.out; omega); intro v1 w9 ho hb1 hgr1 hat; have HR9 := Aside0.mk ho; have HB9 := Aside0.mk hb1; have HG9 := Aside0.mk ((hgr1.block g hgr (Kd.R_away HR.out (fun k hk => hk.1))).trans HG.out); have HK9 := Aside0.mk (Kept.of_grown hgr1 HK.out (fun k hk => .inl (.inr (HR.out.1 k hk).2))); clear ho hb1 hgr1 hat; obtain ⟨A9, q9, e9⟩ := Kd.R_slice HR9.out; subst e9; obtain ⟨x90, x91, f90, f91⟩ := two_cells HG9.out)
          go_meet
          case rel =>
            rw [if_pos HZ.out]
            exact ⟨A9, q9, ⟨blk_put HG9.out 0 _ (by rw [List.length_append]; rfl)⟩, ⟨Kd.R_far HR9.out (p := ⟨g, 0, none⟩) (fun k hk => hk.1) _⟩, ⟨below_set HB9.out hBg'⟩, ⟨Kept.setCell HK9.out (.inl (.inl rfl)) _⟩⟩
        · have c5 : ((m : Int) % 8 == 0) = false := beq_eq_false_iff_ne.2 (by omega)
          have HZ := Aside0.mk hz
          clear hz
          go_wp2
          go_meet
          case rel =>
            rw [if_neg HZ.out]
            exact ⟨A1, q1, HG, HR, HB, HK⟩
      case rest =>
        obtain ⟨A2, q2, HG2, HR2, HB2, HK2⟩ := hcut
        clear HG HR HB HK x0 x1 f0 f1
        obtain ⟨b2, hb2⟩ : ∃ b2, (if m % 8 = 0 then b' ++ [0] else b') = b2 := ⟨_, rfl⟩
        rw [hb2] at HG2 HR2
        have HL := Aside0.mk (show m / 8 < b2.length by
          rw [← hb2]
          have := HBd.out
          split
          · rw [List.length_append, List.length_singleton]
            omega
          · omega)
        have HB2L := Aside0.mk hb2
        clear hb2
        obtain ⟨q, q3, eq, qb, ql, qc, hq⟩ := Kd.R_form HR2.out (by have := HL.out; omega)
        injection eq with ea_ en_ ec_
        subst ea_ ec_
        clear en_
        obtain ⟨x0, x1, f0, f1⟩ := two_cells HG2.out
        obtain ⟨x2, f2⟩ := Kd.R_celln 0 HR2.out ((m / 8 : Nat) : Int) (by omega) (by have := HL.out; omega)
        rw [Int.toNat_natCast] at x2 f2
        have HGQ := Aside0.mk (show g ≠ q from fun e => (HR2.out.1 q rfl).1 e.symm)
        go_upto_region 9 with (fail)
        generalize hbit : Go.bits .and .u64 (v / 2 ^ (w - 1 - k)) 1 % 256 = bit
        have HBIT := Aside0.mk hbit
        clear hbit
        obtain ⟨s, i0, i1, i2, i3, i4, i5, i6, i7, i8, hs⟩ := put_facts m b2.length HL.out HM1.out
        have HS := Aside0.mk hs
        clear hs
        refine start_ (n := 22) (S := fun w' => w'.cell? ⟨g, 0, none⟩ = some (.slice (some ⟨q, 0, none⟩) b2.length q2) ∧ w'.cell? ⟨g, 1, none⟩ = some (.int .i64 (m : Int)) ∧ w'.cell? ⟨q, m / 8, none⟩ = some (.int .u8 (rdOf 0 b2 ((m / 8 : Nat) : Int))) ∧ w'.frozen? ⟨q, m / 8, none⟩ = false) (ds := [21]) #[false, false, false, false, false, false, false, false, false, false, false, false, false, false, false, false, false, false, false, false, false, false] (by kernel_rfl) rfl rfl ⟨x0, x1, x2, f2⟩ (fun hHeld => ?_)
        refine pure_ (i := 0) (N := some 48) (v := ?_) (a' := ?_) #[true, false, false, false, false, false, false, false, false, false, false, false, false, false, false, false, false, false, false, false, false, false] rfl rfl (by kernel_rfl) (fun _ _ _ h => h) (Or.inl ⟨by rfl, ?_⟩) ?_ ?_
        rotate_left
        · intro w'
          go_simp
          with_reducible rfl
        rotate_left
        · simp only [Act.put, List.setIfInBounds_toArray, List.set_cons_zero, List.set_cons_succ, i64_w, i32_w]
          rfl
        refine pure_ (i := 1) (N := some 49) (v := ?_) (a' := ?_) #[true, true, false, false, false, false, false, false, false, false, false, false, false, false, false, false, false, false, false, false, false, false] rfl rfl (by kernel_rfl) (fun _ _ _ h => h) (Or.inl ⟨by rfl, ?_⟩) ?_ ?_
        rotate_left
        · intro w'
          go_simp
          with_reducible rfl
        rotate_left
        · simp only [Act.put, List.setIfInBounds_toArray, List.set_cons_zero, List.set_cons_succ, i64_w, i32_w]
          rfl
        refine pure_ (i := 2) (N := some 50) (v := ?_) (a' := ?_) #[true, true, true, false, false, false, false, false, false, false, false, false, false, false, false, false, false, false, false, false, false, false] rfl rfl (by kernel_rfl) (fun _ _ _ h => h) (Or.inl ⟨by rfl, ?_⟩) ?_ ?_
        rotate_left
        · intro w'
          go_simp
          with_reducible rfl
        rotate_left
        · simp only [Act.put, List.setIfInBounds_toArray, List.set_cons_zero, List.set_cons_succ, i64_w, i32_w]
          rfl
        refine pure_ (i := 4) (N := some 52) (v := ?_) (a' := ?_) #[true, true, true, false, true, false, false, false, false, false, false, false, false, false, false, false, false, false, false, false, false, false] rfl rfl (by kernel_rfl) (fun _ _ _ h => h) (Or.inl ⟨by rfl, ?_⟩) ?_ ?_
        rotate_left
        · intro w'
          go_simp
          with_reducible rfl
        rotate_left
        · simp only [Act.put, List.setIfInBounds_toArray, List.set_cons_zero, List.set_cons_succ, i64_w, i32_w]
          rfl
        refine pure_ (i := 5) (N := some 53) (v := ?_) (a' := ?_) #[true, true, true, false, true, true, false, false, false, false, false, false, false, false, false, false, false, false, false, false, false, false] rfl rfl (by kernel_rfl) (fun _ _ _ h => h) (Or.inl ⟨by rfl, ?_⟩) ?_ ?_
        rotate_left
        · intro w'
          go_simp
          with_reducible rfl
        rotate_left
        · simp only [Act.put, List.setIfInBounds_toArray, List.set_cons_zero, List.set_cons_succ, i64_w, i32_w]
          rfl
        refine pure_ (i := 6) (N := some 54) (v := ?_) (a' := ?_) #[true, true, true, false, true, true, true, false, false, false, false, false, false, false, false, false, false, false, false, false, false, false] rfl rfl (by kernel_rfl) (fun _ _ _ h => h) (Or.inl ⟨by rfl, ?_⟩) ?_ ?_
        rotate_left
        · intro w'
          go_simp
          with_reducible rfl
        rotate_left
        · simp only [Act.put, List.setIfInBounds_toArray, List.set_cons_zero, List.set_cons_succ, i64_w, i32_w]
          rfl
        refine pure_ (i := 11) (N := some 59) (v := ?_) (a' := ?_) #[true, true, true, false, true, true, true, false, false, false, false, true, false, false, false, false, false, false, false, false, false, false] rfl rfl (by kernel_rfl) (fun _ _ _ h => h) (Or.inl ⟨by rfl, ?_⟩) ?_ ?_
        rotate_left
        · intro w'
          go_simp
          with_reducible rfl
        rotate_left
        · simp only [Act.put, List.setIfInBounds_toArray, List.set_cons_zero, List.set_cons_succ, i64_w, i32_w]
          rfl
        refine pure_ (i := 12) (N := some 60) (v := ?_) (a' := ?_) #[true, true, true, false, true, true, true, false, false, false, false, true, true, false, false, false, false, false, false, false, false, false] rfl rfl (by kernel_rfl) (fun _ _ _ h => h) (Or.inl ⟨by rfl, ?_⟩) ?_ ?_
        rotate_left
        · intro w'
          go_simp
          with_reducible rfl
        rotate_left
        · simp only [Act.put, List.setIfInBounds_toArray, List.set_cons_zero, List.set_cons_succ, i64_w, i32_w]
          rfl
        refine pure_ (i := 13) (N := some 61) (v := ?_) (a' := ?_) #[true, true, true, false, true, true, true, false, false, false, false, true, true, true, false, false, false, false, false, false, false, false] rfl rfl (by kernel_rfl) (fun _ _ _ h => h) (Or.inl ⟨by rfl, ?_⟩) ?_ ?_
        rotate_left
        · intro w'
          go_simp
          with_reducible rfl
        rotate_left
        · simp only [Act.put, List.setIfInBounds_toArray, List.set_cons_zero, List.set_cons_succ, i64_w, i32_w]
          rfl
        refine pure_ (i := 14) (N := some 62) (v := ?_) (a' := ?_) #[true, true, true, false, true, true, true, false, false, false, false, true, true, true, true, false, false, false, false, false, false, false] rfl rfl (by kernel_rfl) (fun _ _ _ h => h) (Or.inl ⟨by rfl, ?_⟩) ?_ ?_
        rotate_left
        · intro w'
          go_simp
          with_reducible rfl
        rotate_left
        · simp only [Act.put, List.setIfInBounds_toArray, List.set_cons_zero, List.set_cons_succ, i64_w, i32_w]
          rfl
        refine take_ (i := 3) (N := some 51) (v := ?_) (a' := ?_) #[true, true, true, true, true, true, true, false, false, false, false, true, true, true, true, false, false, false, false, false, false, false] rfl rfl (by kernel_rfl) (fun _ _ _ h => h) (Or.inl ⟨by rfl, ?_⟩) hHeld ?_ ?_
        rotate_left
        · rintro w' ⟨s0, s1, s2, s3⟩
          go_simp
          with_reducible rfl
        rotate_left
        · simp only [Act.put, List.setIfInBounds_toArray, List.set_cons_zero, List.set_cons_succ, i64_w, i32_w]
          rfl
        refine take_ (i := 7) (N := some 55) (v := ?_) (a' := ?_) #[true, true, true, true, true, true, true, true, false, false, false, true, true, true, true, false, false, false, false, false, false, false] rfl rfl (by kernel_rfl) (fun _ _ _ h => h) (Or.inl ⟨by rfl, ?_⟩) hHeld ?_ ?_
        rotate_left
        · rintro w' ⟨s0, s1, s2, s3⟩
          go_simp
          with_reducible rfl
        rotate_left
        · simp only [Act.put, List.setIfInBounds_toArray, List.set_cons_zero, List.set_cons_succ, i64_w, i32_w]
          rfl
        refine pure_ (i := 8) (N := some 56) (v := ?_) (a' := ?_) #[true, true, true, true, true, true, true, true, true, false, false, true, true, true, true, false, false, false, false, false, false, false] rfl rfl (by kernel_rfl) (fun _ _ _ h => h) (Or.inl ⟨by rfl, ?_⟩) ?_ ?_
        rotate_left
        · intro w'
          go_simp
          with_reducible rfl
        rotate_left
        · simp only [Act.put, List.setIfInBounds_toArray, List.set_cons_zero, List.set_cons_succ, i64_w, i32_w]
          rfl
        refine pure_ (i := 9) (N := some 57) (v := ?_) (a' := ?_) #[true, true, true, true, true, true, true, true, true, true, false, true, true, true, true, false, false, false, false, false, false, false] rfl rfl (by kernel_rfl) (fun _ _ _ h => h) (Or.inl ⟨by rfl, ?_⟩) ?_ ?_
        rotate_left
        · intro w'
          go_simp
          with_reducible rfl
        rotate_left
        · simp only [Act.put, List.setIfInBounds_toArray, List.set_cons_zero, List.set_cons_succ, i64_w, i32_w]
          rfl
        refine take_ (i := 10) (N := some 58) (v := ?_) (a' := ?_) #[true, true, true, true, true, true, true, true, true, true, true, true, true, true, true, false, false, false, false, false, false, false] rfl rfl (by kernel_rfl) (fun _ _ _ h => h) (Or.inl ⟨by rfl, ?_⟩) hHeld ?_ ?_
        rotate_left
        · rintro w' ⟨s0, s1, s2, s3⟩
          go_simp
          with_reducible rfl
        rotate_left
        · simp only [Act.put, List.setIfInBounds_toArray, List.set_cons_zero, List.set_cons_succ, i64_w, i32_w]
          rfl
        refine take_ (i := 15) (N := some 63) (v := ?_) (a' := ?_) #[true, true, true, true, true, true, true, true, true, true, true, true, true, true, true, true, false, false, false, false, false, false] rfl rfl (by kernel_rfl) (fun _ _ _ h => h) (Or.inl ⟨by rfl, ?_⟩) hHeld ?_ ?_
        rotate_left
        · rintro w' ⟨s0, s1, s2, s3⟩
          go_simp
          with_reducible rfl
        rotate_left
        · simp only [Act.put, List.setIfInBounds_toArray, List.set_cons_zero, List.set_cons_succ, i64_w, i32_w]
          rfl
        refine pure_ (i := 16) (N := some 64) (v := ?_) (a' := ?_) #[true, true, true, true, true, true, true, true, true, true, true, true, true, true, true, true, true, false, false, false, false, false] rfl rfl (by kernel_rfl) (fun _ _ _ h => h) (Or.inl ⟨by rfl, ?_⟩) ?_ ?_
        rotate_left
        · intro w'
          go_simp
          with_reducible rfl
        rotate_left
        · simp only [Act.put, List.setIfInBounds_toArray, List.set_cons_zero, List.set_cons_succ, i64_w, i32_w]
          rfl
        refine pure_ (i := 17) (N := some 65) (v := ?_) (a' := ?_) #[true, true, true, true, true, true, true, true, true, true, true, true, true, true, true, true, true, true, false, false, false, false] rfl rfl (by kernel_rfl) (fun _ _ _ h => h) (Or.inl ⟨by rfl, ?_⟩) ?_ ?_
        rotate_left
        · intro w'
          go_simp
          with_reducible rfl
        rotate_left
        · simp only [Act.put, List.setIfInBounds_toArray, List.set_cons_zero, List.set_cons_succ, i64_w, i32_w]
          rfl
        refine pure_ (i := 18) (N := some 66) (v := ?_) (a' := ?_) #[true, true, true, true, true, true, true, true, true, true, true, true, true, true, true, true, true, true, true, false, false, false] rfl rfl (by kernel_rfl) (fun _ _ _ h => h) (Or.inl ⟨by rfl, ?_⟩) ?_ ?_
        rotate_left
        · intro w'
          go_simp
          with_reducible rfl
        rotate_left
        · simp only [Act.put, List.setIfInBounds_toArray, List.set_cons_zero, List.set_cons_succ, i64_w, i32_w]
          rfl
        refine pure_ (i := 19) (N := some 67) (v := ?_) (a' := ?_) #[true, true, true, true, true, true, true, true, true, true, true, true, true, true, true, true, true, true, true, true, false, false] rfl rfl (by kernel_rfl) (fun _ _ _ h => h) (Or.inl ⟨by rfl, ?_⟩) ?_ ?_
        rotate_left
        · intro w'
          go_simp
          with_reducible rfl
        rotate_left
        · simp only [Act.put, List.setIfInBounds_toArray, List.set_cons_zero, List.set_cons_succ, i64_w, i32_w]
          rfl
        refine pure_ (i := 20) (N := some 68) (v := ?_) (a' := ?_) #[true, true, true, true, true, true, true, true, true, true, true, true, true, true, true, true, true, true, true, true, true, false] rfl rfl (by kernel_rfl) (fun _ _ _ h => h) (Or.inl ⟨by rfl, ?_⟩) ?_ ?_
        rotate_left
        · intro w'
          go_simp
          with_reducible rfl
        rotate_left
        · simp only [Act.put, List.setIfInBounds_toArray, List.set_cons_zero, List.set_cons_succ, i64_w, i32_w]
          rfl
        refine last_ (i := 21) (N := none) #[true, true, true, true, true, true, true, true, true, true, true, true, true, true, true, true, true, true, true, true, true, true] rfl rfl (by kernel_rfl) (by decide) (fun K hK => ?_)
        refine skip_ (w1 := ?_) (by rfl) rfl ?_ ?_
        rotate_left
        · go_simp
          rfl
        refine hK.out _ _ ?_
        clear hK K
        refine done_ (by kernel_rfl) ?_

        generalize hval : Go.bits .or .u8 (rdOf 0 b2 ((m : Int) / 8)) (IntKind.u8.wrap (bit * 2 ^ s)) = val
        have HV := Aside0.mk hval
        clear hval
        have HG3 := Aside0.mk (blk_far HG2.out (p := ⟨q, m / 8, none⟩) (fun e => HGQ.out e) (Value.int IntKind.u8 val))
        clear x0 x1 f0 f1 x2 f2
        obtain ⟨x0, x1, f0, f1⟩ := two_cells HG3.out
        go_wp2
        go_roundg (w - (k + 1))
        case measure => omega
        case rel =>
          have HV2 := Aside0.mk (put_val m k w v bit val b2 s hv0 hv1 HBIT.out HS.out HV.out)
          clear i0 i1 i2 i3 i4 i5 i6 i7 i8 hv0 hv1 hl c3 c4
          refine ⟨k + 1, m + 1, b2.set (m / 8) val, by go_num, rfl, hlt, ⟨by rw [HM.out]; rfl⟩, ⟨?_⟩, ⟨?_⟩, ⟨?_⟩, ⟨?_⟩, ⟨?_⟩⟩
          · rw [← HP.out, show w - k = (w - (k + 1)) + 1 by omega, putBits, show w - (w - (k + 1) + 1) = k by omega]
            unfold putBit
            rw [HB2L.out, HV2.out]
          · exact put_len m b' b2 val HBd.out HL.out HB2L.out
          · have h5 := Kd.R_putn HR2.out ((m / 8 : Nat) : Int) val
            rw [Int.toNat_natCast] at h5
            exact ⟨_, blk_put (blk_drew HG3.out) 1 _ rfl, hBg', Kd.R_far (Kd.R_drew h5) (p := ⟨g, 1, none⟩) (fun k hk => hk.1) _⟩
          · exact below_set (below_drew1 (below_set HB2.out qb)) hBg'
          · exact Kept.setCell (Kept.drew (Kept.setCell HK2.out (.inl (.inr (HR2.out.1 q rfl).2)) _)) (.inl (.inl rfl)) _
    · have c3 : decide ((k : Int) < (w : Int)) = false := decide_eq_false (by omega)
      have c4 : decide (k < w) = false := decide_eq_false hlt
      go_wp2
      go_ret
      have e : w - k = 0 := by omega
      have hp := HP.out
      rw [e] at hp
      simp only [putBits] at hp
      have hm := HM.out
      rw [show k = w by omega] at hm
      subst hm
      rw [← hp]
      exact ⟨rfl, HWr.out, HB.out, HK.out⟩

/-- Put refuses: a width that is none, or a number that is too wide. -/
theorem Put_bad (g : Nat) (v w : Int) (W : World) (hv0 : 0 ≤ v) (hv1 : v ≤ 18446744073709551615) (h : w < 0 ∨ 64 < w ∨ w < (Lib.bitLen v.toNat : Int)) :
    Calls Try.prog 11 #[.pointer (some ⟨g, 0, none⟩), .int .u64 v, .int .i64 w] W fun e W' => e = .returned (.int .i64 1) ∧ Drawn0 W W' := by
  have hwd : bits_Width.f v = some (Lib.bitLen v.toNat : Int) := by
    unfold bits_Width.f bits_Len64.f
    rw [if_pos ⟨hv0, hv1⟩, Option.bind_some]
  have HWD := Aside0.mk hwd
  clear hwd
  by_cases c : w < 0 ∨ 64 < w
  · have hwr : bits_wrong.f w = some true := by
      unfold bits_wrong.f
      by_cases c0 : w < 0
      · rw [if_pos c0]
      · rw [if_neg c0]
        simp
        omega
    have HWR := Aside0.mk hwr
    clear hwr h c
    go_enter Try.func11, Try.ntmps11
    go_wp2_with (first | (go_at_call 25; refine (bits_wrong.calls _ _ _ HWR.out).mono ?_; rintro e w1 ⟨rfl, ⟨nd, rfl⟩⟩) | (go_at_call 12; refine (bits_Width.calls _ _ _ HWD.out).mono ?_; rintro e w1 ⟨rfl, ⟨nd2, rfl⟩⟩))
    go_ret
    exact ⟨rfl, by repeat (first | exact Drawn0.refl _ | apply Drawn0.step)⟩
  · have hwr : bits_wrong.f w = some false := by
      unfold bits_wrong.f
      rw [if_neg (by omega)]
      simp
      omega
    have HWR := Aside0.mk hwr
    have c1 : decide (w < (Lib.bitLen v.toNat : Int)) = true := decide_eq_true (by omega)
    clear hwr h c
    go_enter Try.func11, Try.ntmps11
    go_wp2_with (first | (go_at_call 25; refine (bits_wrong.calls _ _ _ HWR.out).mono ?_; rintro e w1 ⟨rfl, ⟨nd, rfl⟩⟩) | (go_at_call 12; refine (bits_Width.calls _ _ _ HWD.out).mono ?_; rintro e w1 ⟨rfl, ⟨nd2, rfl⟩⟩))
    go_ret
    exact ⟨rfl, by repeat (first | exact Drawn0.refl _ | apply Drawn0.step)⟩
theorem Put_nil (v w : Int) (W : World) : Calls Try.prog 11 #[.pointer none, .int .u64 v, .int .i64 w] W fun e W' => e = .returned (.int .i64 1) ∧ W = W' := by
  go_enter Try.func11, Try.ntmps11
  go_wp2
  go_ret
  exact ⟨rfl, rfl⟩
theorem Len_good (W : World) (B : Nat) (ok : Nat → Prop) (g : Nat) (b : List Int) (n : Nat) (h : Wr W B ok g b n) : Calls Try.prog 14 #[.pointer (some ⟨g, 0, none⟩)] W fun e W' => e = .returned (.int .i64 (n : Int)) ∧ W = W' := by
  obtain ⟨vb, hg, hBg, hR⟩ := h
  obtain ⟨x0, x1, f0, f1⟩ := two_cells hg
  clear hg hR
  go_enter Try.func14, Try.ntmps14
  go_wp2
  go_ret
  exact ⟨rfl, rfl⟩
theorem Len_nil (W : World) : Calls Try.prog 14 #[.pointer none] W fun e W' => e = .returned (.int .i64 0) ∧ W = W' := by
  go_enter Try.func14, Try.ntmps14
  go_wp2
  go_ret
  exact ⟨rfl, rfl⟩
theorem bclone_f (l : List Int) (h : l.length < 140737488355328) : slices_Clone_byte_byte.f l = some l := by
  unfold slices_Clone_byte_byte.f
  simp [h]
theorem Bytes_good (W : World) (B : Nat) (ok : Nat → Prop) (g : Nat) (b : List Int) (n : Nat) (h : Wr W B ok g b n) (hb : b.length < 140737488355328) : Calls Try.prog 16 #[.pointer (some ⟨g, 0, none⟩)] W fun e W' => ∃ v, e = .returned v ∧ Kd.R (Kd.int .u8) 5 W' W.heap.size (fun _ => True) v b ∧ Below W.heap.size W W' := by
  obtain ⟨vb, hg, hBg, hR⟩ := h
  obtain ⟨A1, q1, e1⟩ := Kd.R_slice hR
  subst e1
  obtain ⟨x0, x1, f0, f1⟩ := two_cells hg
  have HR := Aside0.mk (Kd.R_reads' hR)
  have HC := Aside0.mk (bclone_f b hb)
  clear hg hR hb
  go_enter Try.func16, Try.ntmps16
  go_wp2_with (go_at_call 27; refine (slices_Clone_byte_byte.calls _ _ b b _ HR.out.2.2 HR.out.2.1 HC.out).mono ?_; rintro e w1 ⟨v1, rfl, ho, hb⟩; have HO := Aside0.mk ho; have HB := Aside0.mk hb; clear ho hb)
  go_ret
  exact ⟨_, rfl, HO.out, HB.out⟩
theorem Bytes_nil (W : World) : Calls Try.prog 16 #[.pointer none] W fun e W' => e = .returned (.slice none 0 0) ∧ W = W' := by
  go_enter Try.func16, Try.ntmps16
  go_wp2
  go_ret
  exact ⟨rfl, rfl⟩

end Go.Proofs.Ytjpepmnkiicgoaa.P
