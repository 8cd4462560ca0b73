/- The bit writer and the bit reader with the blocks that they own: for texts that hold two of them. -/
import Derived.Test.YtjpepmnkiicgoaaBitP
import Derived.Test.YtjpepmnkiicgoaaPx2
import Derived.Test.YtjpepmnkiicgoaaPx1
namespace Go.Proofs.Ytjpepmnkiicgoaa.P
open Go.RowKit Go.Proofs.Ytjpepmnkiicgoaa.Kit Go.Proofs.YtjpepmnkiicgoaaW.PrintWords Go.Proofs.YtjpepmnkiicgoaaW.PrintLast Go.Proofs.YtjpepmnkiicgoaaW.PrintMore
set_option linter.unusedVariables false
set_option linter.unusedSimpArgs false

/-- A writer of these bits at block g of W; its blocks are those of F. -/
def OwnW (w0 W : World) (g : Nat) (k : List Int) (F : Nat → Prop) : Prop := Wr W w0.heap.size F g (pack k) k.length ∧ is01 k ∧ F g ∧ ∀ j, F j → j < W.heap.size
theorem OwnW.lt {w0 W : World} {g : Nat} {k : List Int} {F : Nat → Prop} (h : OwnW w0 W g k F) : ∀ j, F j → j < W.heap.size := h.2.2.2
/-- What none of its blocks changes leaves it. -/
theorem OwnW.step {w0 W W' : World} {g : Nat} {k : List Int} {F : Nat → Prop} (h : OwnW w0 W g k F) (hs : W.heap.size ≤ W'.heap.size) (hk : ∀ j, j < W.heap.size → F j → W'.heap[j]? = W.heap[j]?) : OwnW w0 W' g k F := by
  obtain ⟨⟨v, hg, hb, hr⟩, h01, hF, hlt⟩ := h
  exact ⟨⟨v, (hk g (hlt g hF) hF).trans hg, hb, Kd.R_step hr fun j hj hj2 => hk j hj2 hj.2⟩, h01, hF, fun j hj => by have := hlt j hj; omega⟩
theorem OwnW.below {w0 W W' : World} {g : Nat} {k : List Int} {F : Nat → Prop} (h : OwnW w0 W g k F) (hb : Below W.heap.size W W') : OwnW w0 W' g k F := h.step hb.size fun j hj _ => hb.block j hj
theorem OwnW.drewN {w0 W : World} {g : Nat} {k : List Int} {F : Nat → Prop} (h : OwnW w0 W g k F) (n : Nat) : OwnW w0 (W.drewN n) g k F := h.below (pw_below_drewN (Below.refl _ _) n)
theorem OwnW.kept {w0 W W' : World} {g : Nat} {k : List Int} {F S : Nat → Prop} (h : OwnW w0 W g k F) (hk : Kept W W' S) (hd : ∀ j, F j → S j → False) : OwnW w0 W' g k F := h.step hk.1 fun j hj hF => hk.2 j hj (fun hS => hd j hF hS)
/-- A writer that was just made. -/
theorem OwnW.made {w0 W : World} (g : Nat) (hb : W.heap[g]? = some (.cells #[.slice none 0 0, .int .i64 0] 27 (0, 0))) (hge : w0.heap.size ≤ g) : OwnW w0 W g [] (fun j => j = g) := ⟨⟨_, hb, hge, Kd.R_nil _ _ _ _ _⟩, is01_nil, rfl, fun j hj => by subst hj; exact blk_lt hb⟩
/-- What Put leaves: the writer behind it, its blocks (its own ones or new ones), all else as it was. -/
def PutTo (w0 W W' : World) (g : Nat) (k : List Int) (F : Nat → Prop) : Prop := (∃ F', OwnW w0 W' g k F' ∧ ∀ j, F' j → F j ∨ W.heap.size ≤ j) ∧ Below w0.heap.size w0 W' ∧ Kept W W' F
theorem own_put (w0 W : World) (g : Nat) (k : List Int) (F : Nat → Prop) (v : Int) (w : Nat) (h : OwnW w0 W g k F) (hB : Below w0.heap.size w0 W) (hv0 : 0 ≤ v) (hv1 : v ≤ 18446744073709551615) (hw : w ≤ 64) (hl : Lib.bitLen v.toNat ≤ w) (hn : k.length + 64 < 16777216) :
    Calls Try.prog 11 #[.pointer (some ⟨g, 0, none⟩), .int .u64 v, .int .i64 (w : Int)] W fun e W' => e = .returned (.int .i64 0) ∧ PutTo w0 W W' g (k ++ bitsOf w v) F := by
  obtain ⟨⟨vb, hg, hb, hr⟩, h01, hF, hlt⟩ := h
  have hW : Wr W w0.heap.size (fun j => F j ∨ W.heap.size ≤ j) g (pack k) k.length := ⟨vb, hg, hb, Kd.R_mono hr fun j hj => ⟨hj.1, .inl hj.2⟩⟩
  refine (Put_good w0 W _ g (pack k) k.length v w hB hW (fun j hj => .inr hj) hv0 hv1 hw hl hn (by rw [pack_length]; omega)).mono ?_
  rintro e W' ⟨rfl, ⟨v2, hg2, hb2, hr2⟩, hb3, hk⟩
  refine ⟨rfl, ⟨fun j => (F j ∨ W.heap.size ≤ j) ∧ j < W'.heap.size, ⟨⟨v2, ?_, hb2, ?_⟩, is01_append h01 (bitsOf_01 _ _), ⟨.inl hF, blk_lt hg2⟩, fun j hj => hj.2⟩, fun j hj => hj.1⟩, hb3, hk.1, fun j hj hF2 => hk.2 j hj fun h => ?_⟩
  · rw [hg2, List.length_append, bitsOf_length]
  · rw [← putBits_pack w v w k (Nat.le_refl _) h01]
    exact Kd.R_mono (Kd.R_bound hr2) fun j hj => ⟨hj.1.1, hj.1.2, hj.2.2.1⟩
  · rcases h with rfl | h | h
    · exact hF2 hF
    · exact hF2 h
    · omega
theorem own_put_bad (w0 W : World) (g : Nat) (k : List Int) (F : Nat → Prop) (v w : Int) (h : OwnW w0 W g k F) (hB : Below w0.heap.size w0 W) (hv0 : 0 ≤ v) (hv1 : v ≤ 18446744073709551615) (hw : w < 0 ∨ 64 < w ∨ w < (Lib.bitLen v.toNat : Int)) :
    Calls Try.prog 11 #[.pointer (some ⟨g, 0, none⟩), .int .u64 v, .int .i64 w] W fun e W' => e = .returned (.int .i64 1) ∧ PutTo w0 W W' g k F := by
  refine (Put_bad g v w W hv0 hv1 hw).mono ?_
  rintro e W' ⟨rfl, ⟨n, rfl⟩⟩
  exact ⟨rfl, ⟨F, h.drewN n, fun j hj => .inl hj⟩, pw_below_drewN hB n, Nat.le_refl _, fun j hj _ => rfl⟩
theorem own_len (w0 W : World) (g : Nat) (k : List Int) (F : Nat → Prop) (h : OwnW w0 W g k F) : Calls Try.prog 14 #[.pointer (some ⟨g, 0, none⟩)] W fun e W' => e = .returned (.int .i64 (k.length : Int)) ∧ W = W' := Len_good W w0.heap.size F g _ _ h.1
theorem own_bytes (w0 W : World) (g : Nat) (k : List Int) (F : Nat → Prop) (h : OwnW w0 W g k F) (hk : k.length < 140737488355328) : Calls Try.prog 16 #[.pointer (some ⟨g, 0, none⟩)] W fun e W' => ∃ v, e = .returned v ∧ Kd.R (Kd.int .u8) 5 W' W.heap.size (fun _ => True) v (pack k) ∧ Below W.heap.size W W' := Bytes_good W w0.heap.size F g _ _ h.1 (by rw [pack_length]; omega)
/-- A reader at block g of W with these bits left; its blocks are those of F. -/
def OwnR (w0 W : World) (g : Nat) (l : List Int) (F : Nat → Prop) : Prop := ∃ b n, Rd W w0.heap.size F g b n ∧ isBy b ∧ b.length < 2097152 ∧ n ≤ 8 * b.length ∧ l = (unpack b).drop n ∧ F g ∧ ∀ j, F j → j < W.heap.size
theorem OwnR.step {w0 W W' : World} {g : Nat} {k : List Int} {F : Nat → Prop} (h : OwnR w0 W g k F) (hs : W.heap.size ≤ W'.heap.size) (hk : ∀ j, j < W.heap.size → F j → W'.heap[j]? = W.heap[j]?) : OwnR w0 W' g k F := by
  obtain ⟨b, n, ⟨v, hg, hb, hr⟩, h1, h2, h3, h4, hF, hlt⟩ := h
  exact ⟨b, n, ⟨v, (hk g (hlt g hF) hF).trans hg, hb, Kd.R_step hr fun j hj hj2 => hk j hj2 hj.2⟩, h1, h2, h3, h4, hF, fun j hj => by have := hlt j hj; omega⟩
theorem OwnR.below {w0 W W' : World} {g : Nat} {k : List Int} {F : Nat → Prop} (h : OwnR w0 W g k F) (hb : Below W.heap.size W W') : OwnR w0 W' g k F := h.step hb.size fun j hj _ => hb.block j hj
theorem OwnR.drewN {w0 W : World} {g : Nat} {k : List Int} {F : Nat → Prop} (h : OwnR w0 W g k F) (n : Nat) : OwnR w0 (W.drewN n) g k F := h.below (pw_below_drewN (Below.refl _ _) n)
theorem OwnR.kept {w0 W W' : World} {g : Nat} {k : List Int} {F S : Nat → Prop} (h : OwnR w0 W g k F) (hk : Kept W W' S) (hd : ∀ j, F j → S j → False) : OwnR w0 W' g k F := h.step hk.1 fun j hj hF => hk.2 j hj (fun hS => hd j hF hS)
theorem own_new (w0 W : World) (A : Option Addr) (c : Nat) (b : List Int) (hB : Below w0.heap.size w0 W) (hr : Kd.C (Kd.int .u8) W A b.length b) (hc : b.length ≤ c) (hb : b.length < 2097152) (hby : isBy b) :
    Calls Try.prog 18 #[.slice A b.length c] W fun e W' => ∃ g, e = .returned (.pointer (some ⟨g, 0, none⟩)) ∧ (∃ F, OwnR w0 W' g (unpack b) F ∧ ∀ j, F j → W.heap.size ≤ j) ∧ Below w0.heap.size w0 W' ∧ Below W.heap.size W W' := by
  refine (NewReader_any w0 W A c b hB hr hc (by omega)).mono ?_
  rintro e W' ⟨g, rfl, ⟨v, hg, hbg, hR⟩, hge, hb1, hb2⟩
  exact ⟨g, rfl, ⟨fun j => W.heap.size ≤ j ∧ j < W'.heap.size, ⟨b, 0, ⟨v, hg, hbg, Kd.R_mono (Kd.R_bound hR) fun j hj => ⟨hj.1.1, hj.1.2, hj.2.2.1⟩⟩, hby, hb, by omega, rfl, ⟨hge, blk_lt hg⟩, fun j hj => hj.2⟩, fun j hj => hj.1⟩, hb1, hb2⟩
theorem own_get (w0 W : World) (g : Nat) (l : List Int) (F : Nat → Prop) (w : Nat) (h : OwnR w0 W g l F) (hB : Below w0.heap.size w0 W) (hw : w ≤ 64) (hl : w ≤ l.length) :
    Calls Try.prog 19 #[.pointer (some ⟨g, 0, none⟩), .int .i64 (w : Int)] W fun e W' => e = .returned (.tuple #[.int .u64 (valL 0 (l.take w)), .int .i64 0]) ∧ OwnR w0 W' g (l.drop w) F ∧ Below w0.heap.size w0 W' ∧ Kept W W' (fun k => k = g) := by
  obtain ⟨b, n, hR, h1, h2, h3, h4, hF, hlt⟩ := h
  have hlen : l.length = 8 * b.length - n := by rw [h4, List.length_drop, unpack_length]
  refine (Get_good w0 W F g b n w hR hB h2 hw (by omega) h1).mono ?_
  rintro e W' ⟨rfl, hr, hb, hk⟩
  refine ⟨?_, ⟨b, n + w, hr, h1, h2, by omega, ?_, hF, fun j hj => by have := hlt j hj; have := hk.1; omega⟩, hb, hk⟩
  · rw [getBits_val b w 0 n (by omega), h4]
  · rw [h4, List.drop_drop]
theorem own_get_short (w0 W : World) (g : Nat) (l : List Int) (F : Nat → Prop) (w : Nat) (h : OwnR w0 W g l F) (hw : w ≤ 64) (hl : l.length < w) :
    Calls Try.prog 19 #[.pointer (some ⟨g, 0, none⟩), .int .i64 (w : Int)] W fun e W' => e = .returned (.tuple #[.int .u64 0, .int .i64 2]) ∧ Drawn0 W W' := by
  obtain ⟨b, n, hR, h1, h2, h3, h4, hF, hlt⟩ := h
  have hlen : l.length = 8 * b.length - n := by rw [h4, List.length_drop, unpack_length]
  exact Get_short W w0.heap.size F g b n w hR h2 h3 hw (by omega)
theorem own_left (w0 W : World) (g : Nat) (l : List Int) (F : Nat → Prop) (h : OwnR w0 W g l F) : Calls Try.prog 20 #[.pointer (some ⟨g, 0, none⟩)] W fun e W' => e = .returned (.int .i64 (l.length : Int)) ∧ Drawn0 W W' := by
  obtain ⟨b, n, hR, h1, h2, h3, h4, hF, hlt⟩ := h
  have hlen : l.length = 8 * b.length - n := by rw [h4, List.length_drop, unpack_length]
  rw [hlen]
  exact Left_good W w0.heap.size F g b n hR h2 h3
theorem own_end (w0 W : World) (g : Nat) (l : List Int) (F : Nat → Prop) (h : OwnR w0 W g l F) : Calls Try.prog 21 #[.pointer (some ⟨g, 0, none⟩)] W fun e W' => e = .returned (.int .i64 (endL l)) ∧ Drawn0 W W' := by
  obtain ⟨b, n, hR, h1, h2, h3, h4, hF, hlt⟩ := h
  rw [h4, ← endOf_endL b h1 n h3]
  exact End_good W w0.heap.size F g b n hR h2 h3
end Go.Proofs.Ytjpepmnkiicgoaa.P
