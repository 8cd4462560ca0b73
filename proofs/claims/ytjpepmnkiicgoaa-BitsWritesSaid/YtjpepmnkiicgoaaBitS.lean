/- The bit reader as a state of the printed functions: its methods in the printed form. -/
import Derived.Test.YtjpepmnkiicgoaaPx2
import Derived.Test.YtjpepmnkiicgoaaPx1
import Derived.Test.YtjpepmnkiicgoaaBitP
namespace Go.Proofs.Ytjpepmnkiicgoaa.P
open Go.RowKit Go.Proofs.Ytjpepmnkiicgoaa.Kit Go.Proofs.YtjpepmnkiicgoaaW.PrintWords Go.Proofs.YtjpepmnkiicgoaaW.PrintLast Go.Proofs.YtjpepmnkiicgoaaW.PrintMore
set_option linter.unusedVariables false
set_option linter.unusedSimpArgs false

/-- A reader at block g of W with these bits left. -/
def IsS59 (w0 W : World) (g : Nat) (f0 : List Int) : Prop := ∃ b n, Rd W w0.heap.size (fun _ => True) g b n ∧ isBy b ∧ b.length < 2097152 ∧ n ≤ 8 * b.length ∧ f0 = (unpack b).drop n
section
variable {w0 W : World} {g : Nat} {f0 : List Int}
theorem IsS59.below {W1 : World} (h : IsS59 w0 W g f0) (hw : Below W.heap.size W W1) : IsS59 w0 W1 g f0 := by
  obtain ⟨b, n, ⟨v, hg, hb, hr⟩, hx⟩ := h
  exact ⟨b, n, ⟨v, blk_below hg hw, hb, Kd.R_below hr hw⟩, hx⟩
theorem IsS59.alloc (h : IsS59 w0 W g f0) (o : Obj) : IsS59 w0 (W.alloc o) g f0 := h.below (below_alloc (Below.refl _ _) o)
theorem IsS59.drewN (h : IsS59 w0 W g f0) (m : Nat) : IsS59 w0 (W.drewN m) g f0 := h.below (pw_below_drewN (Below.refl _ _) m)
theorem IsS59.drew (h : IsS59 w0 W g f0) : IsS59 w0 W.drew g f0 := h.below (below_drew (Below.refl _ _))
theorem IsS59.set_0 : True := trivial
theorem IsS59.at_ {w' : World} {m : Nat} (hq : W.drewN m = w') (h : IsS59 w0 W g f0) : IsS59 w0 w' g f0 := by
  subst hq
  exact h.drewN m
theorem IsS59.ge (h : IsS59 w0 W g f0) : w0.heap.size ≤ g := by
  obtain ⟨b, n, ⟨v, hg, hb, hr⟩, hx⟩ := h
  exact hb
theorem IsS59.lt (h : IsS59 w0 W g f0) : g < W.heap.size := by
  obtain ⟨b, n, ⟨v, hg, hb, hr⟩, hx⟩ := h
  exact blk_lt hg
theorem IsS59.fresh (h : IsS59 w0 W g f0) : ∀ k, W.heap.size ≤ k → k ≠ g := by
  obtain ⟨b, n, ⟨v, hg, hb, hr⟩, hx⟩ := h
  exact Kd.freshB hg
theorem IsS59.apart {α : Type} {d : Kd α} {e : Nat} {base : Nat} {ok : Nat → Prop} {v : Value} {xs : List α} (h : IsS59 w0 W g f0) (ho : d.R e W base ok v xs) (ht : ∀ q, q ∈ e :: d.E → q ≠ 59) : d.R e W base (fun k => ok k ∧ k ≠ g) v xs := by
  obtain ⟨b, n, ⟨u, hg, hb, hr⟩, hx⟩ := h
  exact Kd.R_types ho hg ht
theorem IsS59.apartQ {α : Type} {d : Kd α} {e : Nat} {base : Nat} {ok : Nat → Prop} {v : Value} {xs : List α} (h : IsS59 w0 W g f0) (ho : d.Q e W base ok v xs) (ht : ∀ q, q ∈ e :: d.E → q ≠ 59) : d.Q e W base (fun k => ok k ∧ k ≠ g) v xs := by
  obtain ⟨b, n, ⟨u, hg, hb, hr⟩, hx⟩ := h
  exact Kd.Q_types ho hg ht
/-- The state's own blocks are none of this row's. -/
def Away59 (W : World) (g : Nat) (row : Option Nat) : Prop := some g ≠ row ∧ ∀ (b : List Int) (B : Nat) (ok : Nat → Prop) (v : Value), Kd.R (Kd.int .u8) 5 W B ok v b → ∀ k, v.ownBlock = some k → some k ≠ row
theorem IsS59.own_ne {α : Type} {d : Kd α} {e : Nat} {base : Nat} {ok : Nat → Prop} {v : Value} {xs : List α} (h : IsS59 w0 W g f0) (ho : d.R e W base ok v xs) (ht : e ≠ 59 ∧ e ≠ 5) : Away59 W g v.ownBlock := by
  obtain ⟨b, n, ⟨u, hg, hb, hr⟩, hx⟩ := h
  refine ⟨Kd.R_ne ho hg ht.1, fun b' B ok' u' hq' k hk => ?_⟩
  obtain ⟨cells, hc⟩ := Kd.R_typed hq' k hk
  exact Kd.R_ne ho hc ht.2
theorem IsS59.grown {W1 : World} {row : Option Nat} (h : IsS59 w0 W g f0) (hw : W.grownBy W1 row) (hne : Away59 W g row) : IsS59 w0 W1 g f0 := by
  obtain ⟨b, n, ⟨u, hg, hb, hq⟩, hx⟩ := h
  have hn := hne.2 _ _ _ u hq
  refine ⟨b, n, ⟨u, blk_grown hg hw hne.1, hb, Kd.R_mono (Kd.R_grown (ok := fun k => (k ≠ g ∧ True) ∧ some k ≠ row) ?_ hw (fun k hk => hk.2)) (fun _ hk => hk.1)⟩, hx⟩
  obtain ⟨h0, inner, hr, hreps⟩ := hq
  exact ⟨fun k hk => ⟨h0 k hk, hn k hk⟩, inner, hr, hreps⟩
end
def bits_NewReader.f (l0 : List Int) : Option (List Int) := if (∀ x ∈ l0, 0 ≤ x ∧ x < 256) ∧ l0.length < 2097152 then some (unpack l0) else none
def rGet (l : List Int) (w : Int) : Int × Int × List Int := if w < 0 ∨ 64 < w then (0, 1, l) else if l.length < w.toNat then (0, 2, l) else (valL 0 (l.take w.toNat), 0, l.drop w.toNat)
def bits_Reader_Get.f (s : List Int) (w : Int) : Option (Int × Int × List Int) := some (rGet s w)
def bits_Reader_Left.f (s : List Int) : Option (Int × List Int) := some ((s.length : Int), s)
def bits_Reader_End.f (s : List Int) : Option (Int × List Int) := some (endL s, s)
theorem Rd.drew {w0 W W' : World} {g : Nat} {s : List Int} (h : IsS59 w0 W g s) (hB : Below w0.heap.size w0 W) (hd : Drawn0 W W') : IsS59 w0 W' g s ∧ Below w0.heap.size w0 W' ∧ KeepBut W W' g none := by
  obtain ⟨n, rfl⟩ := hd.out
  exact ⟨h.drewN n, pw_below_drewN hB n, Nat.le_refl _, fun i hi hne _ => rfl⟩
theorem bits_NewReader.calls (A0 : Option Addr) (c0 : Nat) (l0 : List Int) (r : List Int) (w0 w : World) (hB : Below w0.heap.size w0 w) (hr0 : Kd.C (Kd.int .u8) w A0 l0.length l0) (hc0 : l0.length ≤ c0) (h : bits_NewReader.f l0 = some r) :
    Calls Try.prog 18 #[.slice A0 l0.length c0] w fun e w' => ∃ g_ : Nat, e = .returned (.pointer (some ⟨g_, 0, none⟩)) ∧ IsS59 w0 w' g_ r ∧ Below w0.heap.size w0 w' ∧ Below w.heap.size w w' := by
  unfold bits_NewReader.f at h
  split at h
  · next hc =>
    injection h with h
    subst h
    refine (NewReader_any w0 w A0 c0 l0 hB hr0 hc0 (by have := hc.2; omega)).mono ?_
    rintro e w' ⟨g, rfl, hcu, _, hb1, hb2⟩
    exact ⟨g, rfl, ⟨l0, 0, ⟨hcu.choose, hcu.choose_spec.1, hcu.choose_spec.2.1, Kd.R_mono hcu.choose_spec.2.2 (fun k hk => ⟨hk.1, trivial⟩)⟩, hc.1, hc.2, by omega, rfl⟩, hb1, hb2⟩
  · cases h
theorem bits_Reader_Get.calls (g : Nat) (s0_0 : List Int) (a1 : Int) (r1 : Int) (r2 : Int) (r3 : List Int) (w0 w : World) (hI : IsS59 w0 w g s0_0) (hB : Below w0.heap.size w0 w) (h : bits_Reader_Get.f s0_0 a1 = some (r1, r2, r3)) :
    Calls Try.prog 19 #[.pointer (some ⟨g, 0, none⟩), .int .i64 a1] w fun e w' => e = .returned (.tuple #[.int .u64 r1, .int .i64 r2]) ∧ IsS59 w0 w' g r3 ∧ Below w0.heap.size w0 w' ∧ KeepBut w w' g none := by
  unfold bits_Reader_Get.f at h
  injection h with h
  unfold rGet at h
  obtain ⟨b, n, hR, hby, hl, hn, hx⟩ := id hI
  have hlen : s0_0.length = 8 * b.length - n := by rw [hx, List.length_drop, unpack_length]
  split at h
  · next h1 =>
    injection h with e1 e2
    injection e2 with e2 e3
    subst e1 e2 e3
    refine (Get_bad g a1 w h1).mono ?_
    rintro e w' ⟨rfl, hd⟩
    exact ⟨rfl, Rd.drew hI hB hd⟩
  · next h1 =>
    obtain ⟨m, rfl⟩ := Int.eq_ofNat_of_zero_le (show 0 ≤ a1 by omega)
    rw [Int.toNat_natCast] at h
    split at h
    · next h2 =>
      injection h with e1 e2
      injection e2 with e2 e3
      subst e1 e2 e3
      refine (Get_short w w0.heap.size _ g b n m hR hl hn (by omega) (by omega)).mono ?_
      rintro e w' ⟨rfl, hd⟩
      exact ⟨rfl, Rd.drew hI hB hd⟩
    · next h2 =>
      injection h with e1 e2
      injection e2 with e2 e3
      subst e1 e2 e3
      refine (Get_good w0 w _ g b n m hR hB hl (by omega) (by omega) hby).mono ?_
      rintro e w' ⟨rfl, hr, hb, hk⟩
      refine ⟨?_, ⟨b, n + m, hr, hby, hl, by omega, ?_⟩, hb, hk.1, fun i hi hne _ => hk.2 i hi hne⟩
      · rw [getBits_val b m 0 n (by omega), hx]
      · rw [hx, List.drop_drop]
theorem bits_Reader_Left.calls (g : Nat) (s0_0 : List Int) (r1 : Int) (r2 : List Int) (w0 w : World) (hI : IsS59 w0 w g s0_0) (hB : Below w0.heap.size w0 w) (h : bits_Reader_Left.f s0_0 = some (r1, r2)) :
    Calls Try.prog 20 #[.pointer (some ⟨g, 0, none⟩)] w fun e w' => e = .returned (.int .i64 r1) ∧ IsS59 w0 w' g r2 ∧ Below w0.heap.size w0 w' ∧ KeepBut w w' g none := by
  unfold bits_Reader_Left.f at h
  injection h with h
  injection h with h1 h2
  subst h1 h2
  obtain ⟨b, n, hR, hby, hl, hn, hx⟩ := id hI
  refine (Left_good w w0.heap.size _ g b n hR hl hn).mono ?_
  rintro e w' ⟨rfl, hd⟩
  exact ⟨by rw [hx, List.length_drop, unpack_length], Rd.drew hI hB hd⟩
theorem bits_Reader_End.calls (g : Nat) (s0_0 : List Int) (r1 : Int) (r2 : List Int) (w0 w : World) (hI : IsS59 w0 w g s0_0) (hB : Below w0.heap.size w0 w) (h : bits_Reader_End.f s0_0 = some (r1, r2)) :
    Calls Try.prog 21 #[.pointer (some ⟨g, 0, none⟩)] w fun e w' => e = .returned (.int .i64 r1) ∧ IsS59 w0 w' g r2 ∧ Below w0.heap.size w0 w' ∧ KeepBut w w' g none := by
  unfold bits_Reader_End.f at h
  injection h with h
  injection h with h1 h2
  subst h1 h2
  obtain ⟨b, n, hR, hby, hl, hn, hx⟩ := id hI
  refine (End_good w w0.heap.size _ g b n hR hl hn).mono ?_
  rintro e w' ⟨rfl, hd⟩
  exact ⟨by rw [hx, endOf_endL b hby n hn], Rd.drew hI hB hd⟩
end Go.Proofs.Ytjpepmnkiicgoaa.P
