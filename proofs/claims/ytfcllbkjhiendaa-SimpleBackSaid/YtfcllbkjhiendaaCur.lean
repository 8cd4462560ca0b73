/- The cursor's methods: what the walks of New, Bytes, Byte, Fixed, Varint, Block, Left and End come to. -/
import Derived.Test.YtfcllbkjhiendaaPx3
import Derived.Test.YtfcllbkjhiendaaVar
import Derived.OneCell
import Derived.Outline
namespace Go.Proofs.Ytfcllbkjhiendaa.P
open Go.RowKit Go.Proofs.Ytfcllbkjhiendaa.Kit Go.Proofs.YtfcllbkjhiendaaW.PrintWords Go.Proofs.YtfcllbkjhiendaaW.PrintLast Go.Proofs.YtfcllbkjhiendaaW.PrintMore
attribute [local go_sem] max2_int min2_int max_two min_two max_three min_three max_four min_four
set_option linter.unusedVariables false
set_option linter.unusedSimpArgs false

/-- A cursor at block g of W: the bytes b are left. -/
def Cu (W : World) (B : Nat) (g : Nat) (b : List Int) : Prop :=
  ∃ v, W.heap[g]? = some (.cells #[v] 60 (0, 0)) ∧ B ≤ g ∧ Kd.Q (Kd.int .u8) 5 W B (fun k => k ≠ g) v b
theorem cclone_f (l : List Int) (h : l.length < 140737488355328) : slices_Clone_byte_byte.f l = some l := by
  unfold slices_Clone_byte_byte.f
  simp [h]
theorem New_any (w0 W : World) (A : Option Addr) (c : Nat) (b : List Int) (hB : Below w0.heap.size w0 W) (hr : Kd.C (Kd.int .u8) W A b.length b) (hc : b.length ≤ c) (hb : b.length < 140737488355328) :
    Calls Try.prog 25 #[.slice A b.length c] W fun e W' => ∃ g, e = .returned (.pointer (some ⟨g, 0, none⟩)) ∧ Cu W' w0.heap.size g b ∧ W.heap.size ≤ g ∧ Below w0.heap.size w0 W' ∧ Below W.heap.size W W' := by
  have HR := Aside0.mk hr
  have HCC := Aside0.mk hc
  have HC := Aside0.mk (cclone_f b hb)
  have HB0 := Aside0.mk hB
  clear hr hb hc hB
  go_enter Try.func25, Try.ntmps25
  go_wp2_with (go_at_call 32; refine (slices_Clone_byte_byte.calls _ _ b b _ HR.out HCC.out HC.out).mono ?_; rintro e w1 ⟨v1, rfl, ho, hb⟩; have HO := Aside0.mk ho; have HB := Aside0.mk hb; clear ho hb; obtain ⟨A9, q9, e9⟩ := Kd.R_slice HO.out; subst e9)
  go_ret
  exact ⟨_, rfl, ⟨_, blk_new _ _, Nat.le_trans HB0.out.size HB.out.size, Kd.Q_of_R (Kd.R_alloc (Kd.R_mono (Kd.R_bound (Kd.R_lower HO.out HB0.out.size)) (fun k hk => by have := hk.2.2.1; omega)) _)⟩, HB.out.size, below_alloc (below_step HB0.out HB.out) _, below_alloc HB.out _⟩
theorem left_any (W : World) (A : Option Addr) (n c : Nat) (g : Nat) (hc : W.cell? ⟨g, 0, none⟩ = some (.slice A n c)) : Calls Try.prog 34 #[.pointer (some ⟨g, 0, none⟩)] W fun e W' => e = .returned (.int .i64 (n : Int)) ∧ W = W' := by
  go_enter Try.func34, Try.ntmps34
  go_wp2
  go_ret
  exact ⟨rfl, rfl⟩
theorem take_good (w0 W : World) (g : Nat) (b : List Int) (n : Nat) (h : Cu W w0.heap.size g b) (hB : Below w0.heap.size w0 W) (hn : n ≤ b.length) (hb : b.length < 140737488355328) :
    Calls Try.prog 36 #[.pointer (some ⟨g, 0, none⟩), .int .i64 (n : Int)] W fun e W' => ∃ A c, e = .returned (.slice A n c) ∧ Kd.R (Kd.int .u8) 5 W' W.heap.size (fun _ => True) (.slice A n c) (b.take n) ∧ Cu W' w0.heap.size g (b.drop n) ∧ Below w0.heap.size w0 W' ∧ Kept W W' (fun k => k = g) := by
  obtain ⟨v, hg, hBg, hQ⟩ := h
  obtain ⟨A, c, e, hlc⟩ := Kd.Q_slice hQ
  subst e
  have hc := cell_of_one hg
  have hf := free_of_one hg
  have HC := Aside0.mk (cclone_f (b.take n) (by rw [List.length_take]; omega))
  obtain ⟨i0, hi, _, hsz, _⟩ := info_parts info5
  have hcut := cut_to (P := Try.prog) 24 5 .i64 Try.underlying24 hi A b.length c (n : Int) (by omega) (by omega) hlc
  have hcut2 := cut_from (P := Try.prog) 24 5 .i64 Try.underlying24 hi 1 hsz A b.length c (n : Int) (by omega) (by omega)
  rw [Int.toNat_natCast] at hcut hcut2
  have hr := Kd.C_take (m := n) (Kd.Q_reads' hQ).2.2 hn
  have hl : (b.take n).length = n := by
    rw [List.length_take]
    omega
  obtain ⟨tb, htb⟩ : ∃ tb, tb = b.take n := ⟨_, rfl⟩
  rw [← htb] at hr hl HC
  rw [hl] at hr
  have hq := Kd.Q_drop (k := n) hQ hn
  have hl2 : (b.drop n).length = b.length - n := List.length_drop
  obtain ⟨A2, hA2⟩ : ∃ A2, A2 = (if c = n then A else A.map (·.add (n * 1))) := ⟨_, rfl⟩
  obtain ⟨c2, hc2⟩ : ∃ c2, c2 = c - n := ⟨_, rfl⟩
  obtain ⟨m2, hm2⟩ : ∃ m2, m2 = b.length - n := ⟨_, rfl⟩
  rw [← hA2, ← hc2, ← hm2] at hcut2
  replace hq : Kd.Q (Kd.int .u8) 5 W w0.heap.size (fun k => k ≠ g) (.slice A2 m2 c2) (b.drop n) := by
    rw [hA2, hc2, hm2]
    exact hq
  have HR := Aside0.mk hr
  have HQ := Aside0.mk hq
  have HG := Aside0.mk hg
  have HL := Aside0.mk hl
  have HB := Aside0.mk hB
  have HNC := Aside0.mk (Nat.le_trans hn hlc)
  have hgl : g < W.heap.size := lt_of_block hg
  rw [← htb]
  clear hr hq hg hl hB hn hb hQ hlc hi hsz hl2 hA2 hc2 hm2 htb
  go_enter Try.func36, Try.ntmps36
  go_wp2_with (go_at_call 32; have hcl := slices_Clone_byte_byte.calls A c tb tb W (by rw [HL.out]; exact HR.out) (by rw [HL.out]; exact HNC.out) HC.out; rw [HL.out] at hcl; refine hcl.mono ?_; rintro e w1 ⟨v1, rfl, ho, hb⟩; have HO := Aside0.mk ho; have HB1 := Aside0.mk hb; clear ho hb hcl; obtain ⟨A9, q9, e9⟩ := Kd.R_slice HO.out; rw [HL.out] at e9; subst e9; have HG1 := Aside0.mk (blk_below HG.out HB1.out); have hc1 := cell_of_one HG1.out; have hf1 := free_of_one HG1.out)
  go_ret
  refine ⟨A9, q9, rfl, ?_, ⟨_, blk_put HG1.out 0 _ rfl, hBg, Kd.Q_far (Kd.Q_below HQ.out HB1.out) (fun k hk => hk) _⟩, below_set (below_step HB.out HB1.out) hBg, ?_⟩
  · exact Kd.R_mono (Kd.R_far (ok := fun k => W.heap.size ≤ k) (Kd.R_mono (Kd.R_bound HO.out) (fun k hk => hk.2.1)) (fun k (hk : W.heap.size ≤ k) e => absurd hgl (Nat.not_lt.mpr (Nat.le_trans hk (Nat.le_of_eq e)))) _) (fun _ _ => trivial)
  · exact Kept.setCell (S := fun k => k = g) ((Kept.refl W _).below HB1.out) (.inl rfl) _
end Go.Proofs.Ytfcllbkjhiendaa.P
