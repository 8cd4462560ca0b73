/- The cursor's methods: what the walks of New, Bytes, Byte, Fixed, Varint, Block, Left and End come to. -/
import Derived.Test.YtfnnlcmfahadhaaPx1
import Derived.Test.YtfnnlcmfahadhaaPx5
import Derived.Test.YtfnnlcmfahadhaaVar
import Derived.OneCell
import Derived.Outline
import Derived.RegionTactic
import Derived.BigRegion
import Derived.Deep.QuietTactic
import Derived.BigQuiet
import Derived.Test.YtfnnlcmfahadhaaBits
namespace Go.Proofs.Ytfnnlcmfahadhaa.P
open Go.RowKit Go.Proofs.Ytfnnlcmfahadhaa.Kit Go.Proofs.YtfnnlcmfahadhaaW.PrintWords Go.Proofs.YtfnnlcmfahadhaaW.PrintLast Go.Proofs.YtfnnlcmfahadhaaW.PrintMore
attribute [local go_sem] max2_int min2_int max_two min_two max_three min_three max_four min_four
set_option linter.unusedVariables false
set_option linter.unusedSimpArgs false

/-- A cursor at block g of W: the bytes b are left. -/
def Cu (W : World) (B : Nat) (g : Nat) (b : List Int) : Prop :=
  ∃ v, W.heap[g]? = some (.cells #[v] 76 (0, 0)) ∧ B ≤ g ∧ Kd.Q (Kd.int .u8) 5 W B (fun k => k ≠ g) v b
theorem cclone_f (l : List Int) (h : l.length < 140737488355328) : slices_Clone_byte_byte.f l = some l := by
  unfold slices_Clone_byte_byte.f
  simp [h]
theorem New_any (w0 W : World) (A : Option Addr) (c : Nat) (b : List Int) (hB : Below w0.heap.size w0 W) (hr : Kd.C (Kd.int .u8) W A b.length b) (hc : b.length ≤ c) (hb : b.length < 140737488355328) :
    Calls Try.prog 26 #[.slice A b.length c] W fun e W' => ∃ g, e = .returned (.pointer (some ⟨g, 0, none⟩)) ∧ Cu W' w0.heap.size g b ∧ W.heap.size ≤ g ∧ Below w0.heap.size w0 W' ∧ Below W.heap.size W W' := by
  have HR := Aside0.mk hr
  have HCC := Aside0.mk hc
  have HC := Aside0.mk (cclone_f b hb)
  have HB0 := Aside0.mk hB
  clear hr hb hc hB
  go_enter Try.func26, Try.ntmps26
  go_wp2_with (go_at_call 39; refine (slices_Clone_byte_byte.calls _ _ b b _ HR.out HCC.out HC.out).mono ?_; rintro e w1 ⟨v1, rfl, ho, hb⟩; have HO := Aside0.mk ho; have HB := Aside0.mk hb; clear ho hb; obtain ⟨A9, q9, e9⟩ := Kd.R_slice HO.out; subst e9)
  go_ret
  exact ⟨_, rfl, ⟨_, blk_new _ _, Nat.le_trans HB0.out.size HB.out.size, Kd.Q_of_R (Kd.R_alloc (Kd.R_mono (Kd.R_bound (Kd.R_lower HO.out HB0.out.size)) (fun k hk => by have := hk.2.2.1; omega)) _)⟩, HB.out.size, below_alloc (below_step HB0.out HB.out) _, below_alloc HB.out _⟩
theorem left_any (W : World) (A : Option Addr) (n c : Nat) (g : Nat) (hc : W.cell? ⟨g, 0, none⟩ = some (.slice A n c)) : Calls Try.prog 47 #[.pointer (some ⟨g, 0, none⟩)] W fun e W' => e = .returned (.int .i64 (n : Int)) ∧ W = W' := by
  go_enter Try.func47, Try.ntmps47
  go_wp2
  go_ret
  exact ⟨rfl, rfl⟩
theorem take_good (w0 W : World) (g : Nat) (b : List Int) (n : Nat) (h : Cu W w0.heap.size g b) (hB : Below w0.heap.size w0 W) (hn : n ≤ b.length) (hb : b.length < 140737488355328) :
    Calls Try.prog 45 #[.pointer (some ⟨g, 0, none⟩), .int .i64 (n : Int)] W fun e W' => ∃ A c, e = .returned (.slice A n c) ∧ Kd.R (Kd.int .u8) 5 W' W.heap.size (fun _ => True) (.slice A n c) (b.take n) ∧ Cu W' w0.heap.size g (b.drop n) ∧ Below w0.heap.size w0 W' ∧ Kept W W' (fun k => k = g) := by
  obtain ⟨v, hg, hBg, hQ⟩ := h
  obtain ⟨A, c, e, hlc⟩ := Kd.Q_slice hQ
  subst e
  have hc := cell_of_one hg
  have hf := free_of_one hg
  have HC := Aside0.mk (cclone_f (b.take n) (by rw [List.length_take]; omega))
  obtain ⟨i0, hi, _, hsz, _⟩ := info_parts info5
  have hcut := cut_to (P := Try.prog) 24 5 .i64 Try.underlying24 hi A b.length c (n : Int) (by omega) (by omega) hlc
  have hcut2 := cut_from (P := Try.prog) 24 5 .i64 Try.underlying24 hi 1 hsz A b.length c (n : Int) (by omega) (by omega)
  rw [Int.toNat_natCast] at hcut hcut2
  have hr := Kd.C_take (m := n) (Kd.Q_reads' hQ).2.2 hn
  have hl : (b.take n).length = n := by
    rw [List.length_take]
    omega
  obtain ⟨tb, htb⟩ : ∃ tb, tb = b.take n := ⟨_, rfl⟩
  rw [← htb] at hr hl HC
  rw [hl] at hr
  have hq := Kd.Q_drop (k := n) hQ hn
  have hl2 : (b.drop n).length = b.length - n := List.length_drop
  obtain ⟨A2, hA2⟩ : ∃ A2, A2 = (if c = n then A else A.map (·.add (n * 1))) := ⟨_, rfl⟩
  obtain ⟨c2, hc2⟩ : ∃ c2, c2 = c - n := ⟨_, rfl⟩
  obtain ⟨m2, hm2⟩ : ∃ m2, m2 = b.length - n := ⟨_, rfl⟩
  rw [← hA2, ← hc2, ← hm2] at hcut2
  replace hq : Kd.Q (Kd.int .u8) 5 W w0.heap.size (fun k => k ≠ g) (.slice A2 m2 c2) (b.drop n) := by
    rw [hA2, hc2, hm2]
    exact hq
  have HR := Aside0.mk hr
  have HQ := Aside0.mk hq
  have HG := Aside0.mk hg
  have HL := Aside0.mk hl
  have HB := Aside0.mk hB
  have HNC := Aside0.mk (Nat.le_trans hn hlc)
  have hgl : g < W.heap.size := lt_of_block hg
  rw [← htb]
  clear hr hq hg hl hB hn hb hQ hlc hi hsz hl2 hA2 hc2 hm2 htb
  go_enter Try.func45, Try.ntmps45
  go_wp2_with (go_at_call 39; have hcl := slices_Clone_byte_byte.calls A c tb tb W (by rw [HL.out]; exact HR.out) (by rw [HL.out]; exact HNC.out) HC.out; rw [HL.out] at hcl; refine hcl.mono ?_; rintro e w1 ⟨v1, rfl, ho, hb⟩; have HO := Aside0.mk ho; have HB1 := Aside0.mk hb; clear ho hb hcl; obtain ⟨A9, q9, e9⟩ := Kd.R_slice HO.out; rw [HL.out] at e9; subst e9; have HG1 := Aside0.mk (blk_below HG.out HB1.out); have hc1 := cell_of_one HG1.out; have hf1 := free_of_one HG1.out)
  go_ret
  refine ⟨A9, q9, rfl, ?_, ⟨_, blk_put HG1.out 0 _ rfl, hBg, Kd.Q_far (Kd.Q_below HQ.out HB1.out) (fun k hk => hk) _⟩, below_set (below_step HB.out HB1.out) hBg, ?_⟩
  · exact Kd.R_mono (Kd.R_far (ok := fun k => W.heap.size ≤ k) (Kd.R_mono (Kd.R_bound HO.out) (fun k hk => hk.2.1)) (fun k (hk : W.heap.size ≤ k) e => absurd hgl (Nat.not_lt.mpr (Nat.le_trans hk (Nat.le_of_eq e)))) _) (fun _ _ => trivial)
  · exact Kept.setCell (S := fun k => k = g) ((Kept.refl W _).below HB1.out) (.inl rfl) _
end Go.Proofs.Ytfnnlcmfahadhaa.P

/- The cursor's methods as pure functions of what is left: contracts of Bytes, Byte, Fixed, Varint, Block, Left and End. -/
namespace Go.Proofs.Ytfnnlcmfahadhaa.P
open Go.RowKit Go.Proofs.Ytfnnlcmfahadhaa.Kit Go.Proofs.Ytfnnlcmfahadhaa.Var Go.Proofs.YtfnnlcmfahadhaaW.PrintWords Go.Proofs.YtfnnlcmfahadhaaW.PrintLast Go.Proofs.YtfnnlcmfahadhaaW.PrintMore
attribute [local go_sem] max2_int min2_int max_two min_two max_three min_three max_four min_four
set_option linter.unusedVariables false
set_option linter.unusedSimpArgs false

def cBytes (b : List Int) (n : Int) : List Int × List Int × Int := if n < 0 then ([], b, 1) else if (b.length : Int) < n then ([], b, 2) else (b.take n.toNat, b.drop n.toNat, 0)
def cByte (b : List Int) : Int × List Int × Int := match b with | [] => (0, [], 2) | x :: t => (x, t, 0)
def be (l : List Int) (v : Int) : Int := l.foldl (fun v x => v * 256 + x) v
def cFixed (b : List Int) (n : Int) : Int × List Int × Int := if 8 < n then (0, b, 1) else (be (cBytes b n).1 0, (cBytes b n).2.1, (cBytes b n).2.2)
def cVarint (b : List Int) : Int × List Int × Int := ((vread b 0 0).1, b.drop (vread b 0 0).2.1.toNat, (vread b 0 0).2.2)
def cBlock (b : List Int) (most : Int) : List Int × List Int × Int :=
  if most < 0 then ([], b, 1) else if (vread b 0 0).2.2 ≠ 0 then ([], b, (vread b 0 0).2.2) else if most < (vread b 0 0).1 then ([], b, 4)
  else if (b.length : Int) - (vread b 0 0).2.1 < (vread b 0 0).1 then ([], b, 2)
  else ((b.drop (vread b 0 0).2.1.toNat).take (vread b 0 0).1.toNat, (b.drop (vread b 0 0).2.1.toNat).drop (vread b 0 0).1.toNat, 0)
/-- What a reading leaves. -/
def CuP (w0 W W' : World) (g : Nat) (b : List Int) : Prop := Cu W' w0.heap.size g b ∧ Below w0.heap.size w0 W' ∧ Kept W W' (fun k => k = g)
theorem CuP.drew {w0 W W' : World} {g : Nat} {b : List Int} (h : Cu W w0.heap.size g b) (hB : Below w0.heap.size w0 W) (hd : Drawn0 W W') : CuP w0 W W' g b := by
  obtain ⟨n, rfl⟩ := hd.out
  obtain ⟨v, hg, hb, hq⟩ := h
  exact ⟨⟨v, blk_drewN hg n, hb, Kd.Q_drewN hq n⟩, pw_below_drewN hB n, Kept.drewN (Kept.refl W _) n⟩
theorem CuP.below {w0 W W' : World} {g : Nat} {b : List Int} (h : Cu W w0.heap.size g b) (hB : Below w0.heap.size w0 W) (hd : Below W.heap.size W W') : CuP w0 W W' g b := by
  obtain ⟨v, hg, hb, hq⟩ := h
  exact ⟨⟨v, blk_below hg hd, hb, Kd.Q_below hq hd⟩, below_step hB hd, (Kept.refl W _).below hd⟩
theorem Cu.cell {W : World} {B g : Nat} {b : List Int} (h : Cu W B g b) : ∃ A c, W.cell? ⟨g, 0, none⟩ = some (.slice A b.length c) ∧ Kd.C (Kd.int .u8) W A b.length b ∧ b.length ≤ c := by
  obtain ⟨v, hg, hb, hq⟩ := h
  obtain ⟨A, c, e, hlc⟩ := Kd.Q_slice hq
  subst e
  exact ⟨A, c, cell_of_one hg, (Kd.Q_reads' hq).2.2, hlc⟩
theorem Bytes_any (w0 W : World) (g : Nat) (b : List Int) (n : Int) (h : Cu W w0.heap.size g b) (hB : Below w0.heap.size w0 W) (hb : b.length < 140737488355328) :
    Calls Try.prog 30 #[.pointer (some ⟨g, 0, none⟩), .int .i64 n] W fun e W' => ∃ v0, e = .returned (.tuple #[v0, .int .i64 (cBytes b n).2.2]) ∧ Kd.R (Kd.int .u8) 5 W' W.heap.size (fun _ => True) v0 (cBytes b n).1 ∧ CuP w0 W W' g (cBytes b n).2.1 := by
  obtain ⟨A, c, hc, hr, hlc⟩ := h.cell
  have HH := Aside0.mk h
  have HB := Aside0.mk hB
  by_cases c0 : n < 0
  · have e : cBytes b n = ([], b, 1) := by
      unfold cBytes
      rw [if_pos c0]
    rw [e]
    have c1 : decide (n < 0) = true := decide_eq_true c0
    clear h hB hb hr hlc e c0
    go_enter Try.func30, Try.ntmps30
    go_wp2
    repeat (go_quiet (fail); try go_wp2)
    go_ret2
    exact ⟨_, rfl, Kd.R_nil _ _ _ _ _, CuP.drew HH.out HB.out (by repeat (first | exact Drawn0.refl _ | apply Drawn0.step))⟩
  · by_cases c2 : (b.length : Int) < n
    · have e : cBytes b n = ([], b, 2) := by
        unfold cBytes
        rw [if_neg c0, if_pos c2]
      rw [e]
      have c1 : decide (n < 0) = false := decide_eq_false c0
      have c3 : decide ((b.length : Int) < n) = true := decide_eq_true c2
      clear h hB hb hr hlc e c0 c2
      go_enter Try.func30, Try.ntmps30
      go_wp2_with (go_at_call 47; refine (left_any _ A b.length c g hc).mono ?_; rintro e w1 ⟨rfl, rfl⟩)
      go_ret2
      exact ⟨_, rfl, Kd.R_nil _ _ _ _ _, CuP.drew HH.out HB.out (by repeat (first | exact Drawn0.refl _ | apply Drawn0.step))⟩
    · obtain ⟨m, rfl⟩ := Int.eq_ofNat_of_zero_le (Int.not_lt.mp c0)
      have e : cBytes b (m : Int) = (b.take m, b.drop m, 0) := by
        unfold cBytes
        rw [if_neg c0, if_neg c2, Int.toNat_natCast]
      rw [e]
      have hcall := take_good w0 W g b m h hB (by omega) hb
      have HCALL := Aside0.mk hcall
      have c1 : decide ((m : Int) < 0) = false := decide_eq_false c0
      have c3 : decide ((b.length : Int) < (m : Int)) = false := decide_eq_false c2
      have c4 : decide (b.length < m) = false := decide_eq_false (by omega)
      clear h hB hb hr hlc e c0 c2 hcall
      go_enter Try.func30, Try.ntmps30
      go_wp2_with (first | (go_at_call 47; refine (left_any _ A b.length c g hc).mono ?_; rintro e w1 ⟨rfl, rfl⟩) | (go_at_call 45; refine HCALL.out.mono ?_; rintro e w1 ⟨A9, q9, rfl, ho, hcu, hbl, hk⟩; have HO := Aside0.mk ho; have HP := Aside0.mk (show CuP w0 W w1 g (b.drop m) from ⟨hcu, hbl, hk⟩); clear ho hcu hbl hk))
      go_ret2
      exact ⟨_, rfl, HO.out, HP.out⟩
theorem Bytes_none (n : Int) (W : World) : Calls Try.prog 30 #[.pointer none, .int .i64 n] W fun e W' => e = .returned (.tuple #[.slice none 0 0, .int .i64 1]) ∧ Drawn0 W W' := by
  go_enter Try.func30, Try.ntmps30
  go_wp2
  repeat (go_quiet (fail); try go_wp2)
  go_ret2
  exact ⟨rfl, by repeat (first | exact Drawn0.refl _ | apply Drawn0.step)⟩
theorem Left_any (w0 W : World) (g : Nat) (b : List Int) (h : Cu W w0.heap.size g b) : Calls Try.prog 29 #[.pointer (some ⟨g, 0, none⟩)] W fun e W' => e = .returned (.int .i64 (b.length : Int)) ∧ Drawn0 W W' := by
  obtain ⟨A, c, hc, hr, hlc⟩ := h.cell
  clear h hr hlc
  go_enter Try.func29, Try.ntmps29
  go_wp2_with (go_at_call 47; refine (left_any _ A b.length c g hc).mono ?_; rintro e w1 ⟨rfl, rfl⟩)
  go_ret
  exact ⟨rfl, by repeat (first | exact Drawn0.refl _ | apply Drawn0.step)⟩
theorem Left_none (W : World) : Calls Try.prog 29 #[.pointer none] W fun e W' => e = .returned (.int .i64 0) ∧ Drawn0 W W' := by
  go_enter Try.func29, Try.ntmps29
  go_wp2
  go_ret
  exact ⟨rfl, by repeat (first | exact Drawn0.refl _ | apply Drawn0.step)⟩
theorem vread_n (b : List Int) (hb : Bytes b) : 0 ≤ (vread b 0 0).2.1 ∧ (vread b 0 0).2.1.toNat ≤ b.length ∧ 0 ≤ (vread b 0 0).1 ∧ (vread b 0 0).1 < 18446744073709551616 := by
  rcases vread_err b 0 0 with h | ⟨h1, h2, h3⟩
  · obtain ⟨u, e1, e2, e3, e4, e5, e6⟩ := vread_only b 0 0 _ _ hb (by omega) (Prod.ext_iff.mpr ⟨rfl, Prod.ext_iff.mpr ⟨rfl, h⟩⟩)
    replace e1 : (vread b 0 0).fst = 0 + (u : Int) * 2 ^ (7 * 0) := e1
    replace e2 : (vread b 0 0).snd.fst = ((0 + (vn u).length : Nat) : Int) := e2
    rw [e1, e2]
    rw [show 7 * 0 = 0 from rfl, Int.pow_zero] at e6 ⊢
    clear e1 e2 e4 e5
    refine ⟨by omega, by omega, by omega, by omega⟩
  · rw [h1, h2]
    simp
theorem Varint_any (w0 W : World) (g : Nat) (b : List Int) (h : Cu W w0.heap.size g b) (hB : Below w0.heap.size w0 W) (hb : b.length < 140737488355328) (hby : Bytes b) :
    Calls Try.prog 27 #[.pointer (some ⟨g, 0, none⟩)] W fun e W' => e = .returned (.tuple #[.int .u64 (cVarint b).1, .int .i64 (cVarint b).2.2]) ∧ CuP w0 W W' g (cVarint b).2.1 := by
  obtain ⟨A, c, hc, hr, hlc⟩ := h.cell
  obtain ⟨h0, h1, h2, h3⟩ := vread_n b hby
  obtain ⟨k, hk⟩ := (Read_ev b hby hb).get
  unfold cVarint
  generalize hx : vread b 0 0 = x at h0 h1 h2 h3 hk ⊢
  obtain ⟨x1, x2, x3⟩ := x
  obtain ⟨m, rfl⟩ := Int.eq_ofNat_of_zero_le h0
  simp only [Int.toNat_natCast] at h1 ⊢
  have HREAD := Aside0.mk (varint_Read.calls k A c b _ _ _ W hr hlc hk)
  have HH := Aside0.mk h
  have HB := Aside0.mk hB
  have HM := Aside0.mk h1
  have HL := Aside0.mk hb
  clear h hB hb hr hlc h0 h1 h2 h3 hk hx hby
  go_enter Try.func27, Try.ntmps27
  go_wp2_with (first | (go_at_call 44; refine HREAD.out.mono ?_; rintro e w1 ⟨rfl, hb1⟩; have hcu1 := CuP.below HH.out HB.out hb1; have HP := Aside0.mk hcu1; clear hb1 hcu1) | (go_at_call 45; refine (take_good w0 _ g b m HP.out.1 HP.out.2.1 HM.out HL.out).mono ?_; rintro e w2 ⟨A9, q9, rfl, ho, hcu, hbl, hk⟩; have HP2 := Aside0.mk (show CuP w0 W w2 g (b.drop m) from ⟨hcu, hbl, Kept.then_ HP.out.2.2 hk (fun k h => .inl h)⟩); clear ho hcu hbl hk))
  go_ret2
  exact ⟨rfl, HP2.out⟩
theorem Varint_none (W : World) : Calls Try.prog 27 #[.pointer none] W fun e W' => e = .returned (.tuple #[.int .u64 0, .int .i64 1]) ∧ Drawn0 W W' := by
  go_enter Try.func27, Try.ntmps27
  go_wp2
  go_ret2
  exact ⟨rfl, by repeat (first | exact Drawn0.refl _ | apply Drawn0.step)⟩
end Go.Proofs.Ytfnnlcmfahadhaa.P

/- The cursor's Fixed and Block: contracts. -/
namespace Go.Proofs.Ytfnnlcmfahadhaa.P
open Go.RowKit Go.Proofs.Ytfnnlcmfahadhaa.Kit Go.Proofs.Ytfnnlcmfahadhaa.Var Go.Proofs.YtfnnlcmfahadhaaW.PrintWords Go.Proofs.YtfnnlcmfahadhaaW.PrintLast Go.Proofs.YtfnnlcmfahadhaaW.PrintMore
attribute [local go_sem] max2_int min2_int max_two min_two max_three min_three max_four min_four
set_option linter.unusedVariables false
set_option linter.unusedSimpArgs false

theorem be_step (v x : Int) (t : List Int) (k : Nat) (hk : k + 1 + t.length ≤ 8) (h0 : 0 ≤ v) (h1 : v < 256 ^ k) (hx : 0 ≤ x ∧ x < 256) : Go.bits .or .u64 (IntKind.u64.wrap (v * 256)) (IntKind.u64.wrap x) = v * 256 + x ∧ 0 ≤ v * 256 + x ∧ v * 256 + x < 256 ^ (k + 1) := by
  have hp : (256 : Int) ^ k ≤ 72057594037927936 := by
    have key : ∀ k : Fin 8, (256 : Int) ^ (k : Nat) ≤ 72057594037927936 := by decide
    exact key ⟨k, by omega⟩
  have h2 : v < 72057594037927936 := by omega
  rw [k64_id (v * 256) (by omega) (by omega), k64_id x hx.1 (by omega), Int.pow_succ]
  refine ⟨?_, by omega, by omega⟩
  exact k64_or_add' 8 x (v * 256) hx.1 (by omega) (by omega) (by omega) (by omega) (by omega)
theorem cBytes_bytes (b : List Int) (n : Int) (hb : Bytes b) : Bytes (cBytes b n).1 ∧ Bytes (cBytes b n).2.1 := by
  unfold cBytes
  split
  · exact ⟨Bytes.nil, hb⟩
  · split
    · exact ⟨Bytes.nil, hb⟩
    · exact ⟨hb.take _, hb.drop _⟩
theorem cBytes_len (b : List Int) (n : Int) : ((cBytes b n).1.length : Int) ≤ n ∨ (cBytes b n).1.length = 0 := by
  unfold cBytes
  split
  · right; rfl
  · split
    · right; rfl
    · left
      simp only [List.length_take]
      omega
theorem Fixed_any (w0 W : World) (g : Nat) (b : List Int) (n : Int) (h : Cu W w0.heap.size g b) (hB : Below w0.heap.size w0 W) (hb : b.length < 140737488355328) (hby : Bytes b) :
    Calls Try.prog 46 #[.pointer (some ⟨g, 0, none⟩), .int .i64 n] W fun e W' => e = .returned (.tuple #[.int .u64 (cFixed b n).1, .int .i64 (cFixed b n).2.2]) ∧ CuP w0 W W' g (cFixed b n).2.1 := by
  by_cases c0 : 8 < n
  · have e : cFixed b n = (0, b, 1) := by
      unfold cFixed
      rw [if_pos c0]
    rw [e]
    have c1 : decide (8 < n) = true := decide_eq_true c0
    have HH := Aside0.mk h
    have HB := Aside0.mk hB
    clear h hB hb hby e c0
    go_enter Try.func46, Try.ntmps46
    go_wp2
    go_ret2
    exact ⟨rfl, CuP.drew HH.out HB.out (by repeat (first | exact Drawn0.refl _ | apply Drawn0.step))⟩
  · have e : cFixed b n = (be (cBytes b n).1 0, (cBytes b n).2.1, (cBytes b n).2.2) := by
      unfold cFixed
      rw [if_neg c0]
    rw [e]
    have c1 : decide (8 < n) = false := decide_eq_false c0
    have hcall := Bytes_any w0 W g b n h hB hb
    have hbt := (cBytes_bytes b n hby).1
    have hlen : (cBytes b n).1.length ≤ 8 := by
      have := cBytes_len b n
      omega
    generalize cBytes b n = r at hcall hbt hlen ⊢
    obtain ⟨x, b', er⟩ := r
    simp only at hcall hbt hlen ⊢
    have HCALL := Aside0.mk hcall
    have HBT := Aside0.mk hbt
    have HL8 := Aside0.mk hlen
    clear h hB hb hby e c0 hcall hbt hlen
    go_enter Try.func46, Try.ntmps46
    go_wp2_with (go_at_call 30; refine HCALL.out.mono ?_; rintro e w1 ⟨v0, rfl, ho, hp⟩; have HP := Aside0.mk hp; have HO := Aside0.mk ho; obtain ⟨A, c, eq⟩ := Kd.R_slice ho; subst eq; clear ho hp)
    go_loopg [8, 21] x.length (fun kq v8 v21 W' => ∃ (k : Nat) (v : Int), v8 = .int .u64 v ∧ v21 = .int .i64 (k : Int) ∧ kq = x.length - k ∧ k ≤ x.length ∧ Aside0 (0 ≤ v ∧ v < 256 ^ k) ∧ Aside0 (be (x.drop k) v = be x 0) ∧ W' = w1)
    case atStart => exact ⟨0, 0, rfl, rfl, rfl, Nat.zero_le _, ⟨by decide⟩, ⟨rfl⟩, rfl⟩
    case round =>
      obtain ⟨k, v, rfl, rfl, rfl, hk, HV, HE, rfl⟩ := hrel
      by_cases hlt : k < x.length
      · have c3 : decide ((k : Int) < (x.length : Int)) = true := decide_eq_true (by omega)
        have c4 : decide (k < x.length) = true := decide_eq_true hlt
        have ho := HO.out
        obtain ⟨q, q2, eq, qb, ql, qc, hq⟩ := Kd.R_form ho (by omega)
        injection eq with e1 e2 e3
        subst e1 e3
        obtain ⟨x2, f2⟩ := Kd.R_celln 0 ho (k : Int) (by omega) (by omega)
        rw [Int.toNat_natCast] at x2
        clear ho f2 hq e2
        have i1 : (0 : Int) ≤ (k : Int) := by omega
        have i2 : (k : Int) < (x.length : Int) := by omega
        go_wp2
        go_roundg (x.length - (k + 1))
        case measure => exact (by clear i1 i2; omega)
        case rel =>
          have hx : rdOf 0 x (k : Int) = x.getD k 0 := rfl
          have hd : x.drop k = x.getD k 0 :: x.drop (k + 1) := by
            rw [List.getD_eq_getElem?_getD, List.getElem?_eq_getElem hlt, List.drop_eq_getElem_cons hlt]
            rfl
          obtain ⟨e1, e2, e3⟩ := be_step v (x.getD k 0) (x.drop (k + 1)) k (by have := HL8.out; rw [List.length_drop]; omega) HV.out.1 HV.out.2 (HBT.out _ (by rw [List.getD_eq_getElem?_getD, List.getElem?_eq_getElem hlt]; exact List.getElem_mem hlt))
          have e4 : wrap64 ((k : Int) + 1) = ((k + 1 : Nat) : Int) := by
            have := HL8.out
            rw [wrap64_id (by omega) (by omega)]
            rfl
          clear i1 i2
          refine ⟨k + 1, v * 256 + x.getD k 0, by rw [hx, e1], by rw [e4], rfl, hlt, ⟨e2, e3⟩, ⟨?_⟩, rfl⟩
          rw [← HE.out, hd]
          rfl
      · have c3 : decide ((k : Int) < (x.length : Int)) = false := decide_eq_false (by omega)
        have c4 : decide (k < x.length) = false := decide_eq_false hlt
        go_wp2
        go_ret2
        have he := HE.out
        rw [show x.drop k = [] from by rw [List.drop_eq_nil_iff]; omega] at he
        rw [← he]
        exact ⟨rfl, HP.out⟩
theorem Fixed_none (n : Int) (W : World) : Calls Try.prog 46 #[.pointer none, .int .i64 n] W fun e W' => e = .returned (.tuple #[.int .u64 0, .int .i64 1]) ∧ Drawn0 W W' := by
  by_cases c0 : 8 < n
  · have c1 : decide (8 < n) = true := decide_eq_true c0
    clear c0
    go_enter Try.func46, Try.ntmps46
    go_wp2
    go_ret2
    exact ⟨rfl, by repeat (first | exact Drawn0.refl _ | apply Drawn0.step)⟩
  · have c1 : decide (8 < n) = false := decide_eq_false c0
    clear c0
    go_enter Try.func46, Try.ntmps46
    go_wp2_with (go_at_call 30; refine (Bytes_none n _).mono ?_; rintro e w1 ⟨rfl, hd⟩; have HD := Aside0.mk hd; clear hd)
    go_loopg [8, 21] 0 (fun kq v8 v21 W' => v8 = .int .u64 0 ∧ v21 = .int .i64 0 ∧ W' = w1)
    case atStart => exact ⟨rfl, rfl, rfl⟩
    case round =>
      obtain ⟨rfl, rfl, rfl⟩ := hrel
      go_wp2
      go_ret2
      exact ⟨rfl, HD.out⟩
theorem block_facts (l m u : Nat) (h1 : m ≤ l) (hb : l < 140737488355328) : wrap64 ((l : Int) - (m : Int)) = ((l - m : Nat) : Int) ∧ IntKind.u64.wrap ((l - m : Nat) : Int) = ((l - m : Nat) : Int) ∧ (¬ ((l : Int) - (m : Int) < (u : Int)) → IntKind.i64.wrap (u : Int) = (u : Int)) := by
  obtain ⟨d, hd⟩ : ∃ d : Nat, d = l - m := ⟨_, rfl⟩
  have hdl : d ≤ l := by omega
  have e : (l : Int) - (m : Int) = (d : Int) := by omega
  rw [← hd, e]
  have p0 : (0 : Int) ≤ (d : Int) := by omega
  have p1 : (d : Int) < 140737488355328 := by omega
  clear hd e hdl h1
  refine ⟨wrap64_id (by omega) (by omega), k64_id _ p0 (by omega), fun h => ?_⟩
  have q1 : (u : Int) < 140737488355328 := by omega
  exact (i64_w _).trans (wrap64_id (by omega) (by omega))
end Go.Proofs.Ytfnnlcmfahadhaa.P

/- What other rows and the cursor leave of each other. -/
namespace Go.Proofs.Ytfnnlcmfahadhaa.P
open Go.RowKit Go.Proofs.Ytfnnlcmfahadhaa.Kit Go.Proofs.Ytfnnlcmfahadhaa.Var Go.Proofs.YtfnnlcmfahadhaaW.PrintWords Go.Proofs.YtfnnlcmfahadhaaW.PrintLast Go.Proofs.YtfnnlcmfahadhaaW.PrintMore
set_option linter.unusedVariables false

theorem Cu.grown {α : Type} {d : Kd α} {e B base g : Nat} {ok : Nat → Prop} {W W1 : World} {v : Value} {xs : List α} {b : List Int} (h : Cu W B g b) (ho : d.R e W base ok v xs) (he : e ≠ 76) (h5 : ∀ q, q ∈ 5 :: (Kd.int .u8).E → q ≠ e) (hg : W.grownBy W1 v.ownBlock) : Cu W1 B g b := by
  obtain ⟨u, hgb, hb, hq⟩ := h
  exact ⟨u, by rw [hg.block g (lt_of_block hgb) (Kd.R_ne ho hgb he)]; exact hgb, hb, Kd.Q_over' hq (Kd.R_typed ho) h5 hg⟩
theorem R_cur {α : Type} {d : Kd α} {e B base g : Nat} {ok : Nat → Prop} {W W1 : World} {v : Value} {xs : List α} {b : List Int} (ho : d.R e W base ok v xs) (h : Cu W B g b) (ht : ∀ q, q ∈ e :: d.E → q ≠ 76) (hk : Kept W W1 (fun k => k = g)) : d.R e W1 base ok v xs := by
  obtain ⟨u, hgb, hb, hq⟩ := h
  exact Kd.R_mono (Kd.R_step (Kd.R_types ho hgb ht) (fun k ho hlt => hk.2 k hlt ho.2)) (fun _ hk => hk.1)
theorem Cu.below {B g : Nat} {W W1 : World} {b : List Int} (h : Cu W B g b) (hb : Below W.heap.size W W1) : Cu W1 B g b := by
  obtain ⟨v, hg, hbb, hq⟩ := h
  exact ⟨v, blk_below hg hb, hbb, Kd.Q_below hq hb⟩
theorem Cu.alloc {B g : Nat} {W : World} {b : List Int} (h : Cu W B g b) (o : Obj) : Cu (W.alloc o) B g b := h.below (below_alloc (Below.refl _ _) o)
theorem Cu.drewN {B g : Nat} {W : World} {b : List Int} (h : Cu W B g b) (n : Nat) : Cu (W.drewN n) B g b := h.below (pw_below_drewN (Below.refl _ _) n)
theorem Cu.drew1 {B g : Nat} {W : World} {b : List Int} (h : Cu W B g b) : Cu W.drew B g b := h.below (below_drew (Below.refl _ _))
end Go.Proofs.Ytfnnlcmfahadhaa.P

/- The cursor as a state of the printed functions: its methods in the printed form. -/
namespace Go.Proofs.Ytfnnlcmfahadhaa.P
open Go.RowKit Go.Proofs.Ytfnnlcmfahadhaa.Kit Go.Proofs.Ytfnnlcmfahadhaa.Var Go.Proofs.YtfnnlcmfahadhaaW.PrintWords Go.Proofs.YtfnnlcmfahadhaaW.PrintLast Go.Proofs.YtfnnlcmfahadhaaW.PrintMore
set_option linter.unusedVariables false
set_option linter.unusedSimpArgs false

/-- A cursor over these bytes at block g of W. -/
def IsS76 (w0 W : World) (g : Nat) (f0 : List Int) : Prop := Cu W w0.heap.size g f0
section
variable {w0 W : World} {g : Nat} {f0 : List Int}
theorem IsS76.below {W1 : World} (h : IsS76 w0 W g f0) (hw : Below W.heap.size W W1) : IsS76 w0 W1 g f0 := Cu.below h hw
theorem IsS76.alloc (h : IsS76 w0 W g f0) (o : Obj) : IsS76 w0 (W.alloc o) g f0 := Cu.alloc h o
theorem IsS76.drewN (h : IsS76 w0 W g f0) (m : Nat) : IsS76 w0 (W.drewN m) g f0 := Cu.drewN h m
theorem IsS76.drew (h : IsS76 w0 W g f0) : IsS76 w0 W.drew g f0 := Cu.drew1 h
theorem IsS76.set_0 : True := trivial
theorem IsS76.at_ {w' : World} {m : Nat} (hq : W.drewN m = w') (h : IsS76 w0 W g f0) : IsS76 w0 w' g f0 := by
  subst hq
  exact Cu.drewN h m
theorem IsS76.ge (h : IsS76 w0 W g f0) : w0.heap.size ≤ g := by
  obtain ⟨v, hg, hb, hq⟩ := h
  exact hb
theorem IsS76.lt (h : IsS76 w0 W g f0) : g < W.heap.size := by
  obtain ⟨v, hg, hb, hq⟩ := h
  exact blk_lt hg
theorem IsS76.fresh (h : IsS76 w0 W g f0) : ∀ k, W.heap.size ≤ k → k ≠ g := by
  obtain ⟨v, hg, hb, hq⟩ := h
  exact Kd.freshB hg
theorem IsS76.apart {α : Type} {d : Kd α} {e : Nat} {base : Nat} {ok : Nat → Prop} {v : Value} {xs : List α} (h : IsS76 w0 W g f0) (ho : d.R e W base ok v xs) (ht : ∀ q, q ∈ e :: d.E → q ≠ 76) : d.R e W base (fun k => ok k ∧ k ≠ g) v xs := by
  obtain ⟨u, hg, hb, hq⟩ := h
  exact Kd.R_types ho hg ht
theorem IsS76.apartQ {α : Type} {d : Kd α} {e : Nat} {base : Nat} {ok : Nat → Prop} {v : Value} {xs : List α} (h : IsS76 w0 W g f0) (ho : d.Q e W base ok v xs) (ht : ∀ q, q ∈ e :: d.E → q ≠ 76) : d.Q e W base (fun k => ok k ∧ k ≠ g) v xs := by
  obtain ⟨u, hg, hb, hq⟩ := h
  exact Kd.Q_types ho hg ht
/-- The cursor's own blocks are none of this row's. -/
def CuAway76 (W : World) (g : Nat) (f0 : List Int) (row : Option Nat) : Prop := some g ≠ row ∧ ∀ (B : Nat) (v : Value), Kd.Q (Kd.int .u8) 5 W B (fun k => k ≠ g) v f0 → ∀ k, v.ownBlock = some k → some k ≠ row
theorem IsS76.own_ne {α : Type} {d : Kd α} {e : Nat} {base : Nat} {ok : Nat → Prop} {v : Value} {xs : List α} (h : IsS76 w0 W g f0) (ho : d.R e W base ok v xs) (ht : e ≠ 76 ∧ e ≠ 5) : CuAway76 W g f0 v.ownBlock := by
  obtain ⟨u, hg, hb, hq⟩ := h
  refine ⟨Kd.R_ne ho hg ht.1, fun B u' hq' k hk => ?_⟩
  obtain ⟨cells, hc⟩ := Kd.Q_typed hq' k hk
  exact Kd.R_ne ho hc ht.2
theorem IsS76.grown {W1 : World} {row : Option Nat} (h : IsS76 w0 W g f0) (hw : W.grownBy W1 row) (hne : CuAway76 W g f0 row) : IsS76 w0 W1 g f0 := by
  obtain ⟨u, hg, hb, hq⟩ := h
  refine ⟨u, blk_grown hg hw hne.1, hb, Kd.Q_mono (Kd.Q_grown (ok := fun k => k ≠ g ∧ some k ≠ row) ?_ hw (fun k hk => hk.2)) (fun _ hk => hk.1)⟩
  have hn := hne.2 w0.heap.size u hq
  obtain ⟨h0, inner, hr, hreps⟩ := hq
  exact ⟨fun k hk => ⟨h0 k hk, hn k hk⟩, inner, hr, hreps⟩
end
def cgood (s : List Int) : Prop := (∀ x ∈ s, 0 ≤ x ∧ x < 256) ∧ s.length < 140737488355328
instance (s : List Int) : Decidable (cgood s) := by
  unfold cgood
  exact inferInstance
def cursor_New.f (l0 : List Int) : Option (List Int) := if cgood l0 then some l0 else none
def cursor_Cursor_Bytes.f (s : List Int) (n : Int) : Option (List Int × Int × List Int) := if cgood s then some ((cBytes s n).1, (cBytes s n).2.2, (cBytes s n).2.1) else none
def cursor_Cursor_Byte.f (s : List Int) : Option (Int × Int × List Int) := if cgood s then some ((cByte s).1, (cByte s).2.2, (cByte s).2.1) else none
def cursor_Cursor_Fixed.f (s : List Int) (n : Int) : Option (Int × Int × List Int) := if cgood s then some ((cFixed s n).1, (cFixed s n).2.2, (cFixed s n).2.1) else none
def cursor_Cursor_Varint.f (s : List Int) : Option (Int × Int × List Int) := if cgood s then some ((cVarint s).1, (cVarint s).2.2, (cVarint s).2.1) else none
def cursor_Cursor_Block.f (s : List Int) (n : Int) : Option (List Int × Int × List Int) := if cgood s ∧ n ≤ 9223372036854775807 then some ((cBlock s n).1, (cBlock s n).2.2, (cBlock s n).2.1) else none
def cursor_Cursor_Left.f (s : List Int) : Option (Int × List Int) := if cgood s then some ((s.length : Int), s) else none
def cursor_Cursor_End.f (s : List Int) : Option (Int × List Int) := if cgood s then some ((if 0 < s.length then 3 else 0), s) else none
theorem CuP.keep {w0 W W' : World} {g : Nat} {b : List Int} (h : CuP w0 W W' g b) : IsS76 w0 W' g b ∧ Below w0.heap.size w0 W' ∧ KeepBut W W' g none := ⟨h.1, h.2.1, h.2.2.1, fun i hi hne _ => h.2.2.2 i hi hne⟩
theorem cursor_New.calls (A0 : Option Addr) (c0 : Nat) (l0 : List Int) (r : List Int) (w0 w : World) (hB : Below w0.heap.size w0 w) (hr0 : Kd.C (Kd.int .u8) w A0 l0.length l0) (hc0 : l0.length ≤ c0) (h : cursor_New.f l0 = some r) :
    Calls Try.prog 26 #[.slice A0 l0.length c0] w fun e w' => ∃ g_ : Nat, e = .returned (.pointer (some ⟨g_, 0, none⟩)) ∧ IsS76 w0 w' g_ r ∧ Below w0.heap.size w0 w' ∧ Below w.heap.size w w' := by
  unfold cursor_New.f at h
  split at h
  · next hc =>
    injection h with h
    subst h
    refine (New_any w0 w A0 c0 l0 hB hr0 hc0 hc.2).mono ?_
    rintro e w' ⟨g, rfl, hcu, _, hb1, hb2⟩
    exact ⟨g, rfl, hcu, hb1, hb2⟩
  · cases h
theorem cursor_Cursor_Bytes.calls (g : Nat) (s0_0 : List Int) (a1 : Int) (r1 : List Int) (r2 : Int) (r3 : List Int) (w0 w : World) (hI : IsS76 w0 w g s0_0) (hB : Below w0.heap.size w0 w) (h : cursor_Cursor_Bytes.f s0_0 a1 = some (r1, r2, r3)) :
    Calls Try.prog 30 #[.pointer (some ⟨g, 0, none⟩), .int .i64 a1] w fun e w' => ∃ v0_ : Value, e = .returned (.tuple #[v0_, .int .i64 r2]) ∧ Kd.R (Kd.int .u8) 5 w' w.heap.size (fun _ => True) v0_ r1 ∧ IsS76 w0 w' g r3 ∧ Below w0.heap.size w0 w' ∧ KeepBut w w' g none := by
  unfold cursor_Cursor_Bytes.f at h
  split at h
  · next hc =>
    injection h with h
    injection h with h1 h2
    injection h2 with h2 h3
    subst h1 h2 h3
    refine (Bytes_any w0 w g s0_0 a1 hI hB hc.2).mono ?_
    rintro e w' ⟨v, rfl, ho, hp⟩
    exact ⟨v, rfl, ho, hp.keep⟩
  · cases h
theorem cursor_Cursor_Fixed.calls (g : Nat) (s0_0 : List Int) (a1 : Int) (r1 : Int) (r2 : Int) (r3 : List Int) (w0 w : World) (hI : IsS76 w0 w g s0_0) (hB : Below w0.heap.size w0 w) (h : cursor_Cursor_Fixed.f s0_0 a1 = some (r1, r2, r3)) :
    Calls Try.prog 46 #[.pointer (some ⟨g, 0, none⟩), .int .i64 a1] w fun e w' => e = .returned (.tuple #[.int .u64 r1, .int .i64 r2]) ∧ IsS76 w0 w' g r3 ∧ Below w0.heap.size w0 w' ∧ KeepBut w w' g none := by
  unfold cursor_Cursor_Fixed.f at h
  split at h
  · next hc =>
    injection h with h
    injection h with h1 h2
    injection h2 with h2 h3
    subst h1 h2 h3
    refine (Fixed_any w0 w g s0_0 a1 hI hB hc.2 hc.1).mono ?_
    rintro e w' ⟨rfl, hp⟩
    exact ⟨rfl, hp.keep⟩
  · cases h
theorem cursor_Cursor_Varint.calls (g : Nat) (s0_0 : List Int) (r1 : Int) (r2 : Int) (r3 : List Int) (w0 w : World) (hI : IsS76 w0 w g s0_0) (hB : Below w0.heap.size w0 w) (h : cursor_Cursor_Varint.f s0_0 = some (r1, r2, r3)) :
    Calls Try.prog 27 #[.pointer (some ⟨g, 0, none⟩)] w fun e w' => e = .returned (.tuple #[.int .u64 r1, .int .i64 r2]) ∧ IsS76 w0 w' g r3 ∧ Below w0.heap.size w0 w' ∧ KeepBut w w' g none := by
  unfold cursor_Cursor_Varint.f at h
  split at h
  · next hc =>
    injection h with h
    injection h with h1 h2
    injection h2 with h2 h3
    subst h1 h2 h3
    refine (Varint_any w0 w g s0_0 hI hB hc.2 hc.1).mono ?_
    rintro e w' ⟨rfl, hp⟩
    exact ⟨rfl, hp.keep⟩
  · cases h
theorem cursor_Cursor_Left.calls (g : Nat) (s0_0 : List Int) (r1 : Int) (r2 : List Int) (w0 w : World) (hI : IsS76 w0 w g s0_0) (hB : Below w0.heap.size w0 w) (h : cursor_Cursor_Left.f s0_0 = some (r1, r2)) :
    Calls Try.prog 29 #[.pointer (some ⟨g, 0, none⟩)] w fun e w' => e = .returned (.int .i64 r1) ∧ IsS76 w0 w' g r2 ∧ Below w0.heap.size w0 w' ∧ KeepBut w w' g none := by
  unfold cursor_Cursor_Left.f at h
  split at h
  · next hc =>
    injection h with h
    injection h with h1 h2
    subst h1 h2
    refine (Left_any w0 w g s0_0 hI).mono ?_
    rintro e w' ⟨rfl, hd⟩
    exact ⟨rfl, (CuP.drew hI hB hd).keep⟩
  · cases h
end Go.Proofs.Ytfnnlcmfahadhaa.P
