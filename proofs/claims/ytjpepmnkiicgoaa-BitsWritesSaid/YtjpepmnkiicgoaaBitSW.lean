/- The bit writer as a state of the printed functions: its methods in the printed form. -/
import Derived.Test.YtjpepmnkiicgoaaPx2
import Derived.Test.YtjpepmnkiicgoaaPx1
import Derived.Test.YtjpepmnkiicgoaaBitP
namespace Go.Proofs.Ytjpepmnkiicgoaa.P
open Go.RowKit Go.Proofs.Ytjpepmnkiicgoaa.Kit Go.Proofs.YtjpepmnkiicgoaaW.PrintWords Go.Proofs.YtjpepmnkiicgoaaW.PrintLast Go.Proofs.YtjpepmnkiicgoaaW.PrintMore
set_option linter.unusedVariables false
set_option linter.unusedSimpArgs false

/-- A writer at block g of W with these bits. -/
def IsS27 (w0 W : World) (g : Nat) (f0 : List Int) : Prop := ∃ b n, Wr W w0.heap.size (fun _ => True) g b n ∧ is01 f0 ∧ b = pack f0 ∧ n = f0.length
section
variable {w0 W : World} {g : Nat} {f0 : List Int}
theorem IsS27.below {W1 : World} (h : IsS27 w0 W g f0) (hw : Below W.heap.size W W1) : IsS27 w0 W1 g f0 := by
  obtain ⟨b, n, ⟨v, hg, hb, hr⟩, hx⟩ := h
  exact ⟨b, n, ⟨v, blk_below hg hw, hb, Kd.R_below hr hw⟩, hx⟩
theorem IsS27.alloc (h : IsS27 w0 W g f0) (o : Obj) : IsS27 w0 (W.alloc o) g f0 := h.below (below_alloc (Below.refl _ _) o)
theorem IsS27.drewN (h : IsS27 w0 W g f0) (m : Nat) : IsS27 w0 (W.drewN m) g f0 := h.below (pw_below_drewN (Below.refl _ _) m)
theorem IsS27.drew (h : IsS27 w0 W g f0) : IsS27 w0 W.drew g f0 := h.below (below_drew (Below.refl _ _))
theorem IsS27.set_0 : True := trivial
theorem IsS27.at_ {w' : World} {m : Nat} (hq : W.drewN m = w') (h : IsS27 w0 W g f0) : IsS27 w0 w' g f0 := by
  subst hq
  exact h.drewN m
theorem IsS27.ge (h : IsS27 w0 W g f0) : w0.heap.size ≤ g := by
  obtain ⟨b, n, ⟨v, hg, hb, hr⟩, hx⟩ := h
  exact hb
theorem IsS27.lt (h : IsS27 w0 W g f0) : g < W.heap.size := by
  obtain ⟨b, n, ⟨v, hg, hb, hr⟩, hx⟩ := h
  exact blk_lt hg
theorem IsS27.fresh (h : IsS27 w0 W g f0) : ∀ k, W.heap.size ≤ k → k ≠ g := by
  obtain ⟨b, n, ⟨v, hg, hb, hr⟩, hx⟩ := h
  exact Kd.freshB hg
theorem IsS27.apart {α : Type} {d : Kd α} {e : Nat} {base : Nat} {ok : Nat → Prop} {v : Value} {xs : List α} (h : IsS27 w0 W g f0) (ho : d.R e W base ok v xs) (ht : ∀ q, q ∈ e :: d.E → q ≠ 27) : d.R e W base (fun k => ok k ∧ k ≠ g) v xs := by
  obtain ⟨b, n, ⟨u, hg, hb, hr⟩, hx⟩ := h
  exact Kd.R_types ho hg ht
theorem IsS27.apartQ {α : Type} {d : Kd α} {e : Nat} {base : Nat} {ok : Nat → Prop} {v : Value} {xs : List α} (h : IsS27 w0 W g f0) (ho : d.Q e W base ok v xs) (ht : ∀ q, q ∈ e :: d.E → q ≠ 27) : d.Q e W base (fun k => ok k ∧ k ≠ g) v xs := by
  obtain ⟨b, n, ⟨u, hg, hb, hr⟩, hx⟩ := h
  exact Kd.Q_types ho hg ht
/-- The state's own blocks are none of this row's. -/
def Away27 (W : World) (g : Nat) (row : Option Nat) : Prop := some g ≠ row ∧ ∀ (u : Value) (n : Int), W.heap[g]? = some (.cells #[u, .int .i64 n] 27 (0, 0)) → ∀ k, u.ownBlock = some k → some k ≠ row
theorem IsS27.own_ne {α : Type} {d : Kd α} {e : Nat} {base : Nat} {ok : Nat → Prop} {v : Value} {xs : List α} (h : IsS27 w0 W g f0) (ho : d.R e W base ok v xs) (ht : e ≠ 27 ∧ e ≠ 5) : Away27 W g v.ownBlock := by
  obtain ⟨b, n, ⟨u, hg, hb, hr⟩, hx⟩ := h
  refine ⟨Kd.R_ne ho hg ht.1, fun u' n' hq' k hk => ?_⟩
  have e1 := hg.symm.trans hq'
  injection e1 with e1
  injection e1 with e1
  injection e1 with e1
  injection e1 with e1
  subst e1
  obtain ⟨cells, hc⟩ := Kd.R_typed hr k hk
  exact Kd.R_ne ho hc ht.2
/-- What was made since is none of the state's. -/
theorem IsS27.away_new {α : Type} {d : Kd α} {e : Nat} {ok : Nat → Prop} {v : Value} {xs : List α} {W1 : World} (h : IsS27 w0 W g f0) (hw : Below W.heap.size W W1) (ho : d.R e W1 W.heap.size ok v xs) : Away27 W1 g v.ownBlock := by
  obtain ⟨b, n, ⟨u, hg, hb, hr⟩, hx⟩ := h
  have hlt := blk_lt hg
  refine ⟨fun e => ?_, fun u' n' hq' k hk e => ?_⟩
  · have := Kd.R_base ho g e.symm
    omega
  · have e1 := (blk_below hg hw).symm.trans hq'
    injection e1 with e1
    injection e1 with e1
    injection e1 with e1
    injection e1 with e1
    subst e1
    have := Kd.R_lt hr k hk
    have := Kd.R_base ho k e.symm
    omega
theorem IsS27.away_alloc {row : Option Nat} (h : IsS27 w0 W g f0) (hn : Away27 W g row) (o : Obj) : Away27 (W.alloc o) g row := by
  obtain ⟨b, n, ⟨u, hg, hb, hr⟩, hx⟩ := h
  refine ⟨hn.1, fun u' n' hq' k hk => ?_⟩
  have e1 := (blk_below hg (below_alloc (Below.refl _ _) o)).symm.trans hq'
  injection e1 with e1
  injection e1 with e1
  injection e1 with e1
  injection e1 with e1
  subst e1
  exact hn.2 _ _ hg k hk
theorem IsS27.grown {W1 : World} {row : Option Nat} (h : IsS27 w0 W g f0) (hw : W.grownBy W1 row) (hne : Away27 W g row) : IsS27 w0 W1 g f0 := by
  obtain ⟨b, n, ⟨u, hg, hb, hq⟩, hx⟩ := h
  have hn := hne.2 u _ hg
  refine ⟨b, n, ⟨u, blk_grown hg hw hne.1, hb, Kd.R_mono (Kd.R_grown (ok := fun k => (k ≠ g ∧ True) ∧ some k ≠ row) ?_ hw (fun k hk => hk.2)) (fun _ hk => hk.1)⟩, hx⟩
  obtain ⟨h0, inner, hr, hreps⟩ := hq
  exact ⟨fun k hk => ⟨h0 k hk, hn k hk⟩, inner, hr, hreps⟩
end
theorem IsS27.box {w0 W : World} {g : Nat} (hb : W.heap[g]? = some (.cells #[.slice none 0 0, .int .i64 0] 27 (0, 0))) (hge : w0.heap.size ≤ g) : IsS27 w0 W g ([] : List Int) := ⟨[], 0, ⟨_, hb, hge, Kd.R_nil _ _ _ _ _⟩, is01_nil, rfl, rfl⟩
/-- Of what was there only the writer's block and rows of bytes may have changed. -/
def KeepW (w w' : World) (g : Nat) : Prop := w.heap.size ≤ w'.heap.size ∧ ∀ i, i < w.heap.size → i ≠ g → (∀ cells, w.heap[i]? ≠ some (.cells cells 5 (0, 0))) → w'.heap[i]? = w.heap[i]?
theorem IsS27.apartW {w0 W : World} {g : Nat} {f0 : List Int} {α : Type} {d : Kd α} {e : Nat} {base : Nat} {ok : Nat → Prop} {v : Value} {xs : List α} (h : IsS27 w0 W g f0) (ho : d.R e W base ok v xs) (ht : ∀ q, q ∈ e :: d.E → q ≠ 27 ∧ q ≠ 5) : d.R e W base (fun k => ok k ∧ k ≠ g ∧ ∀ cells, W.heap[k]? ≠ some (.cells cells 5 (0, 0))) v xs := by
  obtain ⟨b, n, ⟨u, hg, hb, hq⟩, hx⟩ := h
  refine Kd.R_mono (Kd.R_bound (Kd.R_types ho hg (fun q hq => (ht q hq).1))) (fun k hk => ⟨hk.1.1, hk.1.2, fun cells hc => ?_⟩)
  obtain ⟨q, hq, cells', hc'⟩ := hk.2.2.2
  rw [hc] at hc'
  injection hc' with hc'
  injection hc' with _ h5
  exact (ht q hq).2 h5.symm
theorem R_keepW {w w1 : World} {g : Nat} {α : Type} {d : Kd α} {e : Nat} {base : Nat} {ok : Nat → Prop} {v : Value} {xs : List α} (h : d.R e w base ok v xs) (hk : KeepW w w1 g) (hok : ∀ k, ok k → k ≠ g ∧ ∀ cells, w.heap[k]? ≠ some (.cells cells 5 (0, 0))) : d.R e w1 base ok v xs := Kd.R_step h (fun k ho hlt => hk.2 k hlt (hok k ho).1 (hok k ho).2)
def wPut (s : List Int) (v w : Int) : Int × List Int := if w < 0 ∨ 64 < w ∨ w < (Lib.bitLen v.toNat : Int) then (1, s) else (0, s ++ bitsOf w.toNat v)
def bits_Writer_Put.f (s : List Int) (v w : Int) : Option (Int × List Int) := if s.length + 64 < 16777216 ∧ 0 ≤ v ∧ v ≤ 18446744073709551615 then some (wPut s v w) else none
def bits_Writer_Len.f (s : List Int) : Option (Int × List Int) := some ((s.length : Int), s)
def bits_Writer_Bytes.f (s : List Int) : Option (List Int × List Int) := if s.length < 140737488355328 then some (pack s, s) else none
theorem bits_Writer_Put.calls (g : Nat) (s0_0 : List Int) (a1 a2 : Int) (r1 : Int) (r2 : List Int) (w0 w : World) (hI : IsS27 w0 w g s0_0) (hB : Below w0.heap.size w0 w) (h : bits_Writer_Put.f s0_0 a1 a2 = some (r1, r2)) :
    Calls Try.prog 11 #[.pointer (some ⟨g, 0, none⟩), .int .u64 a1, .int .i64 a2] w fun e w' => e = .returned (.int .i64 r1) ∧ IsS27 w0 w' g r2 ∧ Below w0.heap.size w0 w' ∧ KeepW w w' g := by
  unfold bits_Writer_Put.f at h
  split at h
  · next hc =>
    obtain ⟨hn, hv0, hv1⟩ := hc
    injection h with h
    unfold wPut at h
    split at h
    · next h1 =>
      injection h with e1 e2
      subst e1 e2
      refine (Put_bad g a1 a2 w hv0 hv1 h1).mono ?_
      rintro e w' ⟨rfl, ⟨n, rfl⟩⟩
      exact ⟨rfl, hI.drewN n, pw_below_drewN hB n, Nat.le_refl _, fun i hi _ _ => rfl⟩
    · next h1 =>
      obtain ⟨m, rfl⟩ := Int.eq_ofNat_of_zero_le (show 0 ≤ a2 by omega)
      rw [Int.toNat_natCast] at h
      injection h with e1 e2
      subst e1 e2
      obtain ⟨b, n, ⟨vb, hg, hBg, hR⟩, h01, rfl, rfl⟩ := hI
      have hW : Wr w w0.heap.size (fun k => w.heap.size ≤ k ∨ ∃ cells, w.heap[k]? = some (.cells cells 5 (0, 0))) g (pack s0_0) s0_0.length := by
        refine ⟨vb, hg, hBg, ?_⟩
        have hty := Kd.R_typed hR
        obtain ⟨h0, inner, hr, hreps⟩ := hR
        exact ⟨fun k hk => ⟨(h0 k hk).1, .inr (hty k hk)⟩, inner, hr, hreps⟩
      refine (Put_good w0 w _ g (pack s0_0) s0_0.length a1 m hB hW (fun k hk => .inl hk) hv0 hv1 (by omega) (by omega) hn (by rw [pack_length]; omega)).mono ?_
      rintro e w' ⟨rfl, ⟨vb', hg', hBg', hR'⟩, hb, hk⟩
      refine ⟨rfl, ⟨_, _, ⟨vb', hg', hBg', Kd.R_mono hR' (fun k hk => ⟨hk.1, trivial⟩)⟩, is01_append h01 (bitsOf_01 _ _), ?_, ?_⟩, hb, hk.1, fun i hi hne h5 => hk.2 i hi ?_⟩
      · exact putBits_pack m a1 m s0_0 (Nat.le_refl _) h01
      · rw [List.length_append, bitsOf_length]
      · rintro (rfl | h | ⟨cells, h⟩)
        · exact hne rfl
        · omega
        · exact h5 cells h
  · cases h
theorem bits_Writer_Len.calls (g : Nat) (s0_0 : List Int) (r1 : Int) (r2 : List Int) (w0 w : World) (hI : IsS27 w0 w g s0_0) (hB : Below w0.heap.size w0 w) (h : bits_Writer_Len.f s0_0 = some (r1, r2)) :
    Calls Try.prog 14 #[.pointer (some ⟨g, 0, none⟩)] w fun e w' => e = .returned (.int .i64 r1) ∧ IsS27 w0 w' g r2 ∧ Below w0.heap.size w0 w' ∧ KeepBut w w' g none := by
  unfold bits_Writer_Len.f at h
  injection h with h
  injection h with h1 h2
  subst h1 h2
  obtain ⟨b, n, hW, h01, e1, e2⟩ := id hI
  refine (Len_good w w0.heap.size _ g b n hW).mono ?_
  rintro e w' ⟨rfl, rfl⟩
  exact ⟨by rw [e2], hI, hB, KeepBut.refl _ _ _⟩
theorem bits_Writer_Bytes.calls (g : Nat) (s0_0 : List Int) (r1 : List Int) (r2 : List Int) (w0 w : World) (hI : IsS27 w0 w g s0_0) (hB : Below w0.heap.size w0 w) (h : bits_Writer_Bytes.f s0_0 = some (r1, r2)) :
    Calls Try.prog 16 #[.pointer (some ⟨g, 0, none⟩)] w fun e w' => ∃ v0_ : Value, e = .returned v0_ ∧ Kd.R (Kd.int .u8) 5 w' w.heap.size (fun _ => True) v0_ r1 ∧ IsS27 w0 w' g r2 ∧ Below w0.heap.size w0 w' ∧ KeepBut w w' g none := by
  unfold bits_Writer_Bytes.f at h
  split at h
  · next hc =>
    injection h with h
    injection h with h1 h2
    subst h1 h2
    obtain ⟨b, n, hW, h01, e1, e2⟩ := id hI
    refine (Bytes_good w w0.heap.size _ g b n hW (by rw [e1, pack_length]; omega)).mono ?_
    rintro e w' ⟨v, rfl, ho, hb⟩
    rw [e1] at ho
    exact ⟨v, rfl, ho, hI.below hb, below_step hB hb, KeepBut.of_below hb _ _⟩
  · cases h
end Go.Proofs.Ytjpepmnkiicgoaa.P
