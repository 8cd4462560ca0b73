/- forpack as plain lists: what is packed and unpacked, by the program and by the document. -/
import Derived.Test.YtkpghfklhipcnaaRefBit
import Derived.Test.YtkpghfklhipcnaaRefVar
import Derived.Test.YtkpghfklhipcnaaSame5
import Derived.Test.YtkpghfklhipcnaaCurS
import Derived.Test.YtkpghfklhipcnaaPx6
import Derived.Test.YtkpghfklhipcnaaPx10
import Derived.Test.YtkpghfklhipcnaaPx9
import Derived.Test.YtkpghfklhipcnaaPx8
import Derived.Test.YtkpghfklhipcnaaPx4
import Derived.Test.YtkpghfklhipcnaaFrame
namespace Go.Proofs.Ytkpghfklhipcnaa.ForP
open Go.RowKit Go.Proofs.Ytkpghfklhipcnaa.P Go.Proofs.Ytkpghfklhipcnaa.Kit Go.Proofs.Ytkpghfklhipcnaa.Var Go.Proofs.YtkpghfklhipcnaaW.PrintWords Go.Proofs.YtkpghfklhipcnaaW.PrintLast Go.Proofs.YtkpghfklhipcnaaW.PrintMore
set_option linter.unusedVariables false
set_option linter.unusedSimpArgs false

def U64 (l : List Int) : Prop := ∀ x ∈ l, 0 ≤ x ∧ x < 18446744073709551616
theorem u64_of {l : List Int} (h : ∀ x ∈ l, (Lit.int .u64 x).wf = true) : U64 l := fun x hx => wfu64 (h x hx)
theorem stE_facts (l : List Int) : ∀ k, k ≤ l.length → (∀ i : Nat, i < k → (stE l k).1 ≤ rd l (i : Int) ∧ rd l (i : Int) ≤ (stE l k).2) ∧ (0 < k → (∃ i : Nat, i < k ∧ (stE l k).1 = rd l (i : Int)) ∧ ∃ i : Nat, i < k ∧ (stE l k).2 = rd l (i : Int))
  | 0, _ => ⟨fun i hi => by omega, fun h => by omega⟩
  | k + 1, hk => by
    obtain ⟨h1, h2⟩ := stE_facts l k (by omega)
    have hE : stE l (k + 1) = (if rd l (k : Int) < (if k = 0 then (rd l (k : Int), rd l (k : Int)) else stE l k).1 then rd l (k : Int) else (if k = 0 then (rd l (k : Int), rd l (k : Int)) else stE l k).1, if (if k = 0 then (rd l (k : Int), rd l (k : Int)) else stE l k).2 < rd l (k : Int) then rd l (k : Int) else (if k = 0 then (rd l (k : Int), rd l (k : Int)) else stE l k).2) := rfl
    by_cases h0 : k = 0
    · subst h0
      simp only [if_true, Int.lt_irrefl, if_false] at hE
      rw [hE]
      refine ⟨fun i hi => ?_, fun _ => ⟨⟨0, by omega, rfl⟩, ⟨0, by omega, rfl⟩⟩⟩
      obtain rfl : i = 0 := by omega
      exact ⟨Int.le_refl _, Int.le_refl _⟩
    · simp only [if_neg h0] at hE
      obtain ⟨⟨a, ha, ea⟩, ⟨b, hb, eb⟩⟩ := h2 (by omega)
      rw [hE]
      refine ⟨fun i hi => ?_, fun _ => ⟨?_, ?_⟩⟩
      · rcases Nat.lt_or_ge i k with c | c
        · have := h1 i c
          constructor <;> dsimp only <;> split <;> omega
        · obtain rfl : i = k := by omega
          constructor <;> dsimp only <;> split <;> omega
      · dsimp only
        split
        · exact ⟨k, by omega, rfl⟩
        · exact ⟨a, by omega, ea⟩
      · dsimp only
        split
        · exact ⟨k, by omega, rfl⟩
        · exact ⟨b, by omega, eb⟩
def mnL (l : List Int) : Int := (stE l l.length).1
def mxL (l : List Int) : Int := (stE l l.length).2
theorem bd_of {l : List Int} (h : U64 l) : 0 ≤ mnL l ∧ mnL l ≤ mxL l ∧ mxL l < 18446744073709551616 ∧ ∀ x ∈ l, mnL l ≤ x ∧ x ≤ mxL l := by
  rcases Nat.eq_zero_or_pos l.length with h0 | h0
  · have : l = [] := List.eq_nil_of_length_eq_zero h0
    subst this
    exact ⟨by decide, by decide, by decide, fun x hx => by cases hx⟩
  · obtain ⟨h1, h2⟩ := stE_facts l l.length (Nat.le_refl _)
    obtain ⟨⟨a, ha, ea⟩, ⟨b, hb, eb⟩⟩ := h2 h0
    have ma := h _ (rd_mem l (a : Int) (by omega) (by omega))
    have mb := h _ (rd_mem l (b : Int) (by omega) (by omega))
    have := h1 a ha
    refine ⟨by rw [mnL, ea]; exact ma.1, Int.le_trans this.1 this.2, by rw [mxL, eb]; exact mb.2, fun x hx => ?_⟩
    obtain ⟨i, hi, rfl⟩ := List.mem_iff_getElem.1 hx
    have := h1 i hi
    rw [show rd l (i : Int) = l[i] by simp [rd, List.getD_eq_getElem?_getD, hi]] at this
    exact this
/-- How many bits. -/
def wL (l : List Int) : Nat := Lib.bitLen (mxL l - mnL l).toNat
theorem wL_le {l : List Int} (h : U64 l) : wL l ≤ 64 := by
  have := bd_of h
  exact bl_64 (by omega) (by omega)
/-- The numbers above the least one, bit by bit. -/
def flatB (m : Int) (w : Nat) (l : List Int) : List Int := l.flatMap fun v => bitsOf w (v - m)
theorem flatB_append (m : Int) (w : Nat) (a b : List Int) : flatB m w (a ++ b) = flatB m w a ++ flatB m w b := by simp [flatB]
theorem flatB_cons (m : Int) (w : Nat) (v : Int) (b : List Int) : flatB m w (v :: b) = bitsOf w (v - m) ++ flatB m w b := by simp [flatB]
theorem flatB_01 (m : Int) (w : Nat) (l : List Int) : is01 (flatB m w l) := by
  intro x hx
  obtain ⟨v, _, hv⟩ := List.mem_flatMap.1 hx
  exact bitsOf_01 _ _ x hv
theorem flatB_length (m : Int) (w : Nat) : ∀ l : List Int, (flatB m w l).length = l.length * w
  | [] => by simp [flatB]
  | v :: l => by
    rw [flatB_cons, List.length_append, bitsOf_length, flatB_length m w l, List.length_cons, Nat.add_mul]
    omega
def packB (l : List Int) : List Int := vn (mnL l).toNat ++ (wL l : Int) :: pack (flatB (mnL l) (wL l) l)
def packF (l : List Int) : List Int × Int := if 65536 < l.length then ([], 4) else (packB l, 0)
theorem Width_f (v : Int) (h0 : 0 ≤ v) (h1 : v < 18446744073709551616) : bits_Width.f v = some (Lib.bitLen v.toNat : Int) := by
  unfold bits_Width.f bits_Len64.f
  rw [if_pos ⟨h0, by omega⟩, Option.bind_some]
theorem frame_f {l : List Int} (h : U64 l) (hl : l.length < 140737488355328) : forpack_frame.f l = some (mnL l, (wL l : Int)) := by
  have := bd_of h
  unfold forpack_frame.f
  rw [if_pos hl, wrapu64, show ((stE l l.length).2 - (stE l l.length).1) % 18446744073709551616 = mxL l - mnL l by unfold mxL mnL at *; omega, Width_f _ (by omega) (by omega)]
  rfl
theorem mn_fits {l : List Int} (h : U64 l) {v : Int} (hv : v ∈ l) : 0 ≤ v - mnL l ∧ v - mnL l < 18446744073709551616 ∧ Lib.bitLen (v - mnL l).toNat ≤ wL l ∧ IntKind.u64.wrap (v - mnL l) = v - mnL l ∧ v - mnL l < 2 ^ wL l := by
  obtain ⟨b1, b2, b3, b4⟩ := bd_of h
  have := b4 v hv
  have hx : (mxL l - mnL l).toNat < 2 ^ wL l := bl_lt _ _ (by omega) (Nat.le_refl _)
  have hlt : (v - mnL l).toNat < 2 ^ wL l := by omega
  refine ⟨by omega, by omega, bl_le (wL_le h) hlt, by rw [wrapu64]; omega, ?_⟩
  have h2 : ((v - mnL l).toNat : Int) < (2 : Int) ^ wL l := by exact_mod_cast hlt
  rw [Int.toNat_of_nonneg (by omega)] at h2
  exact h2
theorem Pack_loop {l : List Int} (h : U64 l) (hl : l.length ≤ 65536) (t : List Int) : ∀ p : List Int, l = p ++ t → Evn (fun k => forpack_Pack.l0 k (mnL l) (wL l : Int) l (l.length : Int) (p.length : Int) (flatB (mnL l) (wL l) p)) (packB l, 0) := by
  have hw := wL_le h
  have hb := bd_of h
  induction t with
  | nil =>
    intro p e
    rw [List.append_nil] at e
    subst e
    refine Evn.round ?_
    simp only [forpack_Pack.l0]
    have hvl := vn_len10 (mnL l).toNat (by omega)
    have hfl := flatB_length (mnL l) (wL l) l
    have hm : l.length * wL l ≤ 65536 * 64 := Nat.mul_le_mul hl hw
    refine Evn.neg (by omega) (Evn.bind (Append_ev [] _ (by simp) hb.1 (by omega)) (Evn.pos (by simp; omega) (Evn.bindc rfl (Evn.bindc (a := (pack (flatB (mnL l) (wL l) l), flatB (mnL l) (wL l) l)) (by unfold bits_Writer_Bytes.f; rw [if_pos (by omega)]) (Evn.pos (by simp [pack_length]; omega) ?_)))))
    refine (Evn.pure _).eq ?_
    rw [packB, show ((wL l : Int)) % 256 = (wL l : Int) by omega]
    simp
  | cons v t ih =>
    intro p e
    refine Evn.round ?_
    simp only [forpack_Pack.l0]
    have hlen : l.length = p.length + t.length + 1 := by rw [e]; simp; omega
    have hv : rd l (p.length : Int) = v := by rw [e]; exact rd_mid p v t _ rfl
    have hmem : v ∈ l := by rw [e]; simp
    obtain ⟨f1, f2, f3, f4, f5⟩ := mn_fits h hmem
    have hfl := flatB_length (mnL l) (wL l) p
    have hm : p.length * wL l ≤ 65536 * 64 := Nat.mul_le_mul (by omega) hw
    rw [hv, f4]
    refine Evn.pos (by omega) (Evn.pos (by omega) (Evn.pos (by omega) (Evn.bindc (a := (0, flatB (mnL l) (wL l) (p ++ [v]))) ?_ ?_)))
    · unfold bits_Writer_Put.f
      rw [if_pos ⟨by omega, by omega, by omega⟩]
      unfold wPut
      rw [if_neg (by omega), Int.toNat_natCast, flatB_append, flatB_cons]
      simp [flatB]
    · have h2 := ih (p ++ [v]) (by rw [e]; simp)
      rw [wrap64_id (by omega) (by omega)]
      simpa using h2
theorem Pack_ev {l : List Int} (h : U64 l) (hl : l.length < 140737488355328) : Evn (fun k => forpack_Pack.f k l) (packF l) := by
  unfold forpack_Pack.f packF
  by_cases c : 65536 < l.length
  · rw [if_pos c]
    exact Evn.pos (by omega) (Evn.pure _)
  · rw [if_neg c]
    exact Evn.neg (by omega) (Evn.bindc (frame_f h (by omega)) (Pack_loop h (by omega) l [] rfl))

theorem rBits_loop {l : List Int} {m w i : Int} {u : Int} (hi0 : 0 ≤ i) (hil : i < (l.length : Int)) (hu : IntKind.u64.wrap (rd l i - m) = u) (h0 : 0 ≤ u) (h1 : u < 18446744073709551616) {r : List Int × Int} (d : Nat) : ∀ out : List Int, d ≤ 64 → out.length + d < 17592186044416 →
    Evn (fun k => casketref05_Pack.l1 k l m w (out ++ bitsOf d u) (wrap64 (i + 1))) r → Evn (fun k => casketref05_Pack.l2 k l m w out i ((d : Int) - 1)) r := by
  induction d with
  | zero =>
    intro out _ _ h
    refine Evn.round ?_
    simp only [casketref05_Pack.l2]
    refine Evn.neg (by omega) ?_
    simpa [bitsOf] using h
  | succ d ih =>
    intro out hd ho h
    refine Evn.round ?_
    simp only [casketref05_Pack.l2]
    rw [show ((d + 1 : Nat) : Int) - 1 = (d : Int) by omega, hu, show IntKind.u64.wrap (d : Int) = (d : Int) by rw [wrapu64]; omega, bit_at u d h0 h1 (by omega), wrap64_id (by omega) (by omega)]
    refine Evn.pos (by omega) (Evn.pos hi0 (Evn.pos hil (Evn.pos (by omega) (Evn.pos (by omega) (ih _ (by omega) (by simp; omega) ?_)))))
    simpa [bitsOf] using h
theorem rPack_loop {l : List Int} (h : U64 l) (hl : l.length ≤ 65536) (t : List Int) : ∀ p : List Int, l = p ++ t → Evn (fun k => casketref05_Pack.l1 k l (mnL l) (wL l : Int) (flatB (mnL l) (wL l) p) (p.length : Int)) (packB l, 0) := by
  have hw := wL_le h
  have hb := bd_of h
  induction t with
  | nil =>
    intro p e
    rw [List.append_nil] at e
    subst e
    refine Evn.round ?_
    simp only [casketref05_Pack.l1]
    have hvl := vn_len10 (mnL l).toNat (by omega)
    have hfl := flatB_length (mnL l) (wL l) l
    have hm : l.length * wL l ≤ 65536 * 64 := Nat.mul_le_mul hl hw
    refine Evn.neg (by omega) (Evn.bind (rAppend_ev [] _ (by simp) hb.1 (by omega)) (Evn.pos (by simp; omega) (Evn.bindc rfl (Evn.bind (rBytes_ev _ (flatB_01 _ _ _) (by omega)) (Evn.pos (by simp [pack_length]; omega) ?_)))))
    refine (Evn.pure _).eq ?_
    rw [packB, show ((wL l : Int)) % 256 = (wL l : Int) by omega]
    simp
  | cons v t ih =>
    intro p e
    refine Evn.round ?_
    simp only [casketref05_Pack.l1]
    have hlen : l.length = p.length + t.length + 1 := by rw [e]; simp; omega
    have hv : rd l (p.length : Int) = v := by rw [e]; exact rd_mid p v t _ rfl
    have hmem : v ∈ l := by rw [e]; simp
    obtain ⟨f1, f2, f3, f4, f5⟩ := mn_fits h hmem
    have hfl := flatB_length (mnL l) (wL l) p
    have hm : p.length * wL l ≤ 65536 * 64 := Nat.mul_le_mul (by omega) hw
    refine Evn.pos (by omega) ?_
    rw [wrap64_id (n := (wL l : Int) - 1) (by omega) (by omega)]
    refine rBits_loop (by omega) (by omega) (by rw [hv]; exact f4) f1 f2 (wL l) _ hw (by omega) ?_
    have h2 := ih (p ++ [v]) (by rw [e]; simp)
    rw [wrap64_id (by omega) (by omega)]
    simpa [flatB] using h2
theorem rMin_loop {l : List Int} (h : U64 l) (hl : l.length ≤ 65536) (d : Nat) : ∀ i : Nat, i + d = l.length → Evn (fun k => casketref05_Pack.l0 k l (stE l i).1 (stE l i).2 (i : Int)) (packB l, 0) := by
  induction d with
  | zero =>
    intro i hi
    obtain rfl : i = l.length := by omega
    have hb := bd_of h
    refine Evn.round ?_
    simp only [casketref05_Pack.l0]
    rw [wrapu64, show ((stE l l.length).2 - (stE l l.length).1) % 18446744073709551616 = mxL l - mnL l by unfold mxL mnL at *; omega]
    exact Evn.neg (by omega) (Evn.bind (rWidth_ev _ (by omega) (by omega)) (rPack_loop h hl l [] rfl))
  | succ d ih =>
    intro i hi
    have h2 := ih (i + 1) (by omega)
    have hE : stE l (i + 1) = (if rd l (i : Int) < (if i = 0 then (rd l (i : Int), rd l (i : Int)) else stE l i).1 then rd l (i : Int) else (if i = 0 then (rd l (i : Int), rd l (i : Int)) else stE l i).1, if (if i = 0 then (rd l (i : Int), rd l (i : Int)) else stE l i).2 < rd l (i : Int) then rd l (i : Int) else (if i = 0 then (rd l (i : Int), rd l (i : Int)) else stE l i).2) := rfl
    have hw : wrap64 ((i : Int) + 1) = ((i + 1 : Nat) : Int) := by rw [wrap64_id (by omega) (by omega)]; omega
    rw [hE] at h2
    refine Evn.round ?_
    simp only [casketref05_Pack.l0]
    refine Evn.pos (by omega) ?_
    by_cases h0 : i = 0
    · simp only [if_pos h0, Int.lt_irrefl, if_false] at h2
      refine Evn.pos (by omega) (Evn.round ?_)
      simp only [casketref05_Pack.j1]
      rw [hw]
      exact Evn.pos (by trivial) (Evn.pos (by omega) (Evn.pos (by omega) (Evn.pos (by omega) h2)))
    · simp only [if_neg h0] at h2
      refine Evn.neg (by omega) (Evn.pos (by omega) (Evn.round ?_))
      simp only [casketref05_Pack.j1]
      rw [hw]
      generalize stE l i = s at *
      generalize rd l (i : Int) = v at *
      by_cases d1 : v < s.1
      · rw [if_pos d1] at h2
        refine Evn.pos (decide_eq_true d1) (Evn.pos (by omega) (Evn.pos (by omega) (Evn.neg (by omega) ?_)))
        by_cases d2 : s.2 < v
        · rw [if_pos d2] at h2
          exact Evn.pos d2 h2
        · rw [if_neg d2] at h2
          exact Evn.neg d2 h2
      · rw [if_neg d1] at h2
        refine Evn.neg (by rw [decide_eq_false d1]; decide) (Evn.neg (by omega) (Evn.pos (by omega) (Evn.pos (by omega) ?_)))
        by_cases d2 : s.2 < v
        · rw [if_pos d2] at h2
          exact Evn.pos d2 h2
        · rw [if_neg d2] at h2
          exact Evn.neg d2 h2
theorem rPack_ev {l : List Int} (h : U64 l) : Evn (fun k => casketref05_Pack.f k l) (packF l) := by
  unfold casketref05_Pack.f packF
  by_cases c : 65536 < l.length
  · rw [if_pos c]
    exact Evn.pos (by omega) (Evn.pure _)
  · rw [if_neg c]
    exact Evn.neg (by omega) (rMin_loop h (by omega) l.length 0 (by omega))
theorem packB_len {l : List Int} (h : U64 l) : (packB l).length ≤ l.length * 8 + 12 := by
  have hw := wL_le h
  have hb := bd_of h
  have hvl := vn_len10 (mnL l).toNat (by omega)
  have hm : l.length * wL l ≤ l.length * 64 := Nat.mul_le_mul_left _ hw
  rw [packB, List.length_append, List.length_cons, pack_length, flatB_length]
  omega
theorem packF_len {l : List Int} (h : U64 l) : (packF l).1.length ≤ 600000 := by
  unfold packF
  split
  · simp
  · have := packB_len h
    show (packB l).length ≤ _
    omega

/-- So many numbers of so many bits, above the least one. -/
def unp (w : Nat) (m : Int) : Nat → List Int → List Int
  | 0, _ => []
  | n + 1, s => (valL 0 (s.take w) + m) :: unp w m n (s.drop w)
def Fine (l : List Int) : Prop := ∀ x ∈ l, x < 18446744073709551616
instance (l : List Int) : Decidable (Fine l) := inferInstanceAs (Decidable (∀ x ∈ l, _))
theorem unp_length (w : Nat) (m : Int) : ∀ n s, (unp w m n s).length = n
  | 0, _ => rfl
  | n + 1, s => by rw [unp, List.length_cons, unp_length w m n]
theorem unp_pos {w : Nat} {m : Int} (hm : 0 ≤ m) : ∀ (n : Nat) (s : List Int), is01 s → ∀ x ∈ unp w m n s, 0 ≤ x
  | 0, _, _ => fun x hx => by cases hx
  | n + 1, s, h => fun x hx => by
    rw [unp] at hx
    rcases List.mem_cons.1 hx with rfl | hx
    · have := (valL_bd (is01_take h w)).1
      omega
    · exact unp_pos hm n _ (is01_drop h w) x hx
theorem unp_flat {w : Nat} {m : Int} : ∀ (n : Nat) (s : List Int), is01 s → n * w ≤ s.length → flatB m w (unp w m n s) = s.take (n * w)
  | 0, s, _, _ => by simp [unp, flatB]
  | n + 1, s, h, hl => by
    have e : (n + 1) * w = w + n * w := by rw [Nat.add_mul]; omega
    have hw : (s.take w).length = w := by rw [List.length_take]; omega
    rw [unp, flatB_cons, unp_flat n _ (is01_drop h w) (by rw [List.length_drop]; omega), show valL 0 (s.take w) + m - m = valL 0 (s.take w) by omega, e, List.take_add]
    congr 1
    have := bitsOf_val (is01_take h w)
    rw [hw] at this
    exact this
theorem flat_unp {w : Nat} {m : Int} : ∀ (l : List Int) (s : List Int), (∀ v ∈ l, 0 ≤ v - m ∧ v - m < 2 ^ w) → unp w m l.length (flatB m w l ++ s) = l
  | [], s, _ => rfl
  | v :: l, s, h => by
    have hb := bitsOf_length w (v - m)
    obtain ⟨h0, h1⟩ := h v List.mem_cons_self
    rw [List.length_cons, unp, flatB_cons, List.append_assoc, List.take_left' hb, List.drop_left' hb, flat_unp l s (fun x hx => h x (List.mem_cons_of_mem _ hx)), valL_of_bits h0 h1]
    congr 1
    omega
theorem pack_zeros (k : List Int) (z : Nat) (hz : z < 8) (h8 : (k.length + z) % 8 = 0) : pack (k ++ List.replicate z 0) = pack k := by
  apply ext_bg
  · rw [pack_length, pack_length, List.length_append, List.length_replicate]
    omega
  · intro i hi
    have hbg : ∀ j, bg (k ++ List.replicate z 0) j = bg k j := by
      intro j
      rcases Nat.lt_or_ge j k.length with c | c
      · exact bg_left c
      · rw [bg_right c, bg_out c]
        simp only [bg, List.getD_eq_getElem?_getD, List.getElem?_replicate]
        split <;> rfl
    rw [pack_bg, pack_bg]
    simp only [byteAt, hbg]
theorem pack_rest {s : List Int} {rest : List Int} (hr : isBy rest) (hs : s = unpack rest) (n : Nat) (hn : n ≤ s.length) (he : endL (s.drop n) = 0) : pack (s.take n) = rest := by
  have hl : s.length = 8 * rest.length := by rw [hs, unpack_length]
  unfold endL at he
  split at he
  · exact absurd he (by decide)
  · rename_i c
    split at he
    · rename_i hz
      have e : s.drop n = List.replicate (s.length - n) 0 := List.eq_replicate_iff.2 ⟨List.length_drop, hz⟩
      rw [List.length_drop] at c
      have e2 : s = s.take n ++ List.replicate (s.length - n) 0 := by
        rw [← e]
        exact (List.take_append_drop n s).symm
      rw [← pack_zeros (s.take n) (s.length - n) (by omega) (by rw [List.length_take]; omega), ← e2, hs]
      exact pack_unpack hr
    · exact absurd he (by decide)
def unpackF (b : List Int) (n : Int) : List Int × Int :=
  if n < 0 ∨ 65536 < n then ([], 1) else if (vread b 0 0).2.2 ≠ 0 then ([], (vread b 0 0).2.2) else
  match b.drop (vread b 0 0).2.1.toNat with
  | [] => ([], 2)
  | w :: rest => if 64 < w then ([], 3) else if 8 * (rest.length : Int) < n * w then ([], 2) else
    if Fine (unp w.toNat (vread b 0 0).1 n.toNat (unpack rest)) ∧ endL ((unpack rest).drop (n.toNat * w.toNat)) = 0 ∧ packF (unp w.toNat (vread b 0 0).1 n.toNat (unpack rest)) = (b, 0) then (unp w.toNat (vread b 0 0).1 n.toNat (unpack rest), 0) else ([], 3)
theorem vn_cut {u v : Nat} {x y : List Int} (hu : u < 18446744073709551616) (hv : v < 18446744073709551616) (h : vn u ++ x = vn v ++ y) : u = v ∧ x = y := by
  have h1 := vread_vn u 0 0 x (by omega) (by simpa using (by omega : (u : Int) < 18446744073709551616)) (by omega)
  have h2 := vread_vn v 0 0 y (by omega) (by simpa using (by omega : (v : Int) < 18446744073709551616)) (by omega)
  rw [h, h2] at h1
  have e := congrArg Prod.fst h1
  simp at e
  have e2 : u = v := by omega
  subst e2
  exact ⟨rfl, List.append_cancel_left h⟩
/-- Where the bytes are parts of this form, Pack writes them of what they are just where the frame is theirs. -/
theorem packF_iff {u w n : Nat} {rest : List Int} (hu : u < 18446744073709551616) (hw : w ≤ 64) (hr : isBy rest) (hn : n * w ≤ 8 * rest.length) (hn6 : n ≤ 65536) (hf : Fine (unp w (u : Int) n (unpack rest))) (he : endL ((unpack rest).drop (n * w)) = 0) :
    packF (unp w (u : Int) n (unpack rest)) = (vn u ++ (w : Int) :: rest, 0) ↔ mnL (unp w (u : Int) n (unpack rest)) = (u : Int) ∧ wL (unp w (u : Int) n (unpack rest)) = w := by
  have hU : U64 (unp w (u : Int) n (unpack rest)) := fun x hx => ⟨unp_pos (by omega) n _ (unpack_01 _) x hx, hf x hx⟩
  have hb := bd_of hU
  have hp : packF (unp w (u : Int) n (unpack rest)) = (packB (unp w (u : Int) n (unpack rest)), 0) := by
    unfold packF
    rw [if_neg (by rw [unp_length]; omega)]
  rw [hp]
  have hfl := unp_flat (m := (u : Int)) n (unpack rest) (unpack_01 _) (by rw [unpack_length]; exact hn)
  have hpk := pack_rest hr rfl (n * w) (by rw [unpack_length]; exact hn) he
  constructor
  · intro h
    injection h with h _
    rw [packB] at h
    obtain ⟨e1, e2⟩ := vn_cut (by omega) hu h
    injection e2 with e2 _
    exact ⟨by omega, by omega⟩
  · rintro ⟨e1, e2⟩
    rw [packB, e1, e2, Int.toNat_natCast, hfl, hpk]

theorem wrap_s (i : Nat) (h : i < 140737488355328) : wrap64 ((i : Int) + 1) = ((i + 1 : Nat) : Int) := by
  rw [wrap64_id (by omega) (by omega)]
  omega
theorem val_bd {s : List Int} (h : is01 s) {w : Nat} (hw : w ≤ 64) (hl : w ≤ s.length) : 0 ≤ valL 0 (s.take w) ∧ valL 0 (s.take w) < 18446744073709551616 := by
  have h1 := valL_bd (is01_take h w)
  rw [List.length_take, Nat.min_eq_left hl] at h1
  have h2 : (2 : Int) ^ w ≤ 2 ^ 64 := by
    have : 2 ^ w ≤ 2 ^ 64 := Nat.pow_le_pow_right (by decide) hw
    exact_mod_cast this
  exact ⟨h1.1, by omega⟩
theorem U64_snoc {l : List Int} (h : U64 l) {x : Int} (hx : 0 ≤ x ∧ x < 18446744073709551616) : U64 (l ++ [x]) := fun y hy => by
  rcases List.mem_append.1 hy with hy | hy
  · exact h y hy
  · rw [List.mem_singleton] at hy
    subst hy
    exact hx
theorem fine_cons {x : Int} {l : List Int} : Fine (x :: l) ↔ x < 18446744073709551616 ∧ Fine l := by
  unfold Fine
  simp
theorem uLoop {m : Int} {w : Nat} (hw : w ≤ 64) (hm : 0 ≤ m ∧ m < 18446744073709551616) (n : Nat) (hn : n ≤ 65536) (d : Nat) : ∀ (acc s : List Int) (i : Nat), i + d = n → acc.length = i → U64 acc → is01 s → d * w ≤ s.length →
    Evn (fun k => forpack_Unpack.l0 k m (w : Int) acc (n : Int) (i : Int) s) (if Fine (unp w m d s) ∧ endL (s.drop (d * w)) = 0 ∧ mnL (acc ++ unp w m d s) = m ∧ wL (acc ++ unp w m d s) = w then (acc ++ unp w m d s, 0) else ([], 3)) := by
  induction d with
  | zero =>
    intro acc s i hi ha hU h01 hl
    refine Evn.round ?_
    simp only [forpack_Unpack.l0]
    have hf : Fine [] := fun x hx => by cases hx
    rw [show wrap64 (w : Int) = (w : Int) from wrap64_id (by omega) (by omega)]
    simp only [unp, List.append_nil, Nat.zero_mul, List.drop_zero]
    refine Evn.neg (by omega) (Evn.bindc (a := (endL s, s)) rfl ?_)
    by_cases c1 : endL s = 0
    · refine Evn.pos c1 (Evn.bindc (frame_f hU (by omega)) ?_)
      by_cases c2 : mnL acc = m
      · refine Evn.pos c2 ?_
        by_cases c3 : wL acc = w
        · exact (Evn.pos (by show (wL acc : Int) = (w : Int); omega) (Evn.pure (acc, 0))).eq (if_pos ⟨hf, c1, c2, c3⟩).symm
        · exact (Evn.neg (by show ¬ (wL acc : Int) = (w : Int); omega) (Evn.pure ([], 3))).eq (if_neg (fun h => c3 h.2.2.2)).symm
      · exact (Evn.neg c2 (Evn.pure ([], 3))).eq (if_neg (fun h => c2 h.2.2.1)).symm
    · exact (Evn.neg c1 (Evn.pure ([], 3))).eq (if_neg (fun h => c1 h.2.1)).symm
  | succ d ih =>
    intro acc s i hi ha hU h01 hl
    have e : (d + 1) * w = w + d * w := by rw [Nat.add_mul]; omega
    have hws : w ≤ s.length := by omega
    obtain ⟨v0, v1⟩ := val_bd h01 hw hws
    refine Evn.round ?_
    simp only [forpack_Unpack.l0]
    rw [show wrap64 (w : Int) = (w : Int) from wrap64_id (by omega) (by omega), wrap_s i (by omega), e, ← List.drop_drop]
    refine Evn.pos (by omega) (Evn.bindc (a := (valL 0 (s.take w), 0, s.drop w)) (by unfold bits_Reader_Get.f rGet; rw [if_neg (by omega), if_neg (by omega), Int.toNat_natCast]) ?_)
    rw [wrapu64]
    by_cases c : valL 0 (s.take w) + m < 18446744073709551616
    · rw [show (valL 0 (s.take w) + m) % 18446744073709551616 = valL 0 (s.take w) + m by omega]
      have h2 := ih (acc ++ [valL 0 (s.take w) + m]) (s.drop w) (i + 1) (by omega) (by simp; omega) (U64_snoc hU ⟨by omega, c⟩) (is01_drop h01 w) (by rw [List.length_drop]; omega)
      refine Evn.neg (by omega) (Evn.pos (by omega) (h2.eq ?_))
      simp only [unp, fine_cons, List.append_assoc, List.singleton_append, c, true_and]
    · exact (Evn.pos (by omega) (Evn.pure ([], 3))).eq (if_neg (fun h => c (fine_cons.1 h.1).1)).symm
theorem rGet_at {s : List Int} (h01 : is01 s) {w : Nat} (hw : w ≤ 64) (hl : w ≤ s.length) : Evn (fun k => casketref01_Get.f k s (w : Int)) (valL 0 (s.take w), s.drop w, 0) := by
  refine (rGet_ev s (w : Int) h01).eq ?_
  unfold rGet2
  rw [if_neg (by omega), if_neg (by omega), Int.toNat_natCast]
theorem rLoopT {b : List Int} {m : Int} {w : Nat} (hw : w ≤ 64) (n : Nat) (hn : n ≤ 65536) (d : Nat) : ∀ (acc s : List Int) (i : Nat), i + d = n → acc.length = i → is01 s → d * w ≤ s.length →
    Evn (fun k => casketref05_Unpack.l0 k b (n : Int) m (w : Int) s acc true (i : Int)) ([], 3) := by
  induction d with
  | zero =>
    intro acc s i hi ha h01 hl
    have hj : Evn (fun k => casketref05_Unpack.j2 k b acc true) ([], 3) := by
      refine Evn.round ?_
      simp only [casketref05_Unpack.j2]
      exact Evn.pos (by trivial) (Evn.pure _)
    refine Evn.round ?_
    simp only [casketref05_Unpack.l0]
    refine Evn.neg (by omega) (Evn.bind (rEnd_ev s) ?_)
    by_cases c1 : endL s = 0
    · exact Evn.pos c1 hj
    · exact Evn.neg c1 hj
  | succ d ih =>
    intro acc s i hi ha h01 hl
    have e : (d + 1) * w = w + d * w := by rw [Nat.add_mul]; omega
    refine Evn.round ?_
    simp only [casketref05_Unpack.l0]
    rw [wrap_s i (by omega)]
    exact Evn.pos (by omega) (Evn.bind (rGet_at h01 hw (by omega)) (Evn.pos (by trivial) (Evn.pos (by omega) (ih _ (s.drop w) (i + 1) (by omega) (by simp; omega) (is01_drop h01 w) (by rw [List.length_drop]; omega)))))
theorem rLoopF {b : List Int} {m : Int} {w : Nat} (hw : w ≤ 64) (hm : 0 ≤ m ∧ m < 18446744073709551616) (n : Nat) (hn : n ≤ 65536) (d : Nat) : ∀ (acc s : List Int) (i : Nat), i + d = n → acc.length = i → U64 acc → is01 s → d * w ≤ s.length →
    Evn (fun k => casketref05_Unpack.l0 k b (n : Int) m (w : Int) s acc false (i : Int)) (if Fine (unp w m d s) ∧ endL (s.drop (d * w)) = 0 ∧ packF (acc ++ unp w m d s) = (b, 0) then (acc ++ unp w m d s, 0) else ([], 3)) := by
  induction d with
  | zero =>
    intro acc s i hi ha hU h01 hl
    have hf : Fine [] := fun x hx => by cases hx
    refine Evn.round ?_
    simp only [casketref05_Unpack.l0]
    simp only [unp, List.append_nil, Nat.zero_mul, List.drop_zero]
    refine Evn.neg (by omega) (Evn.bind (rEnd_ev s) ?_)
    by_cases c1 : endL s = 0
    · have hlen := packF_len hU
      have hp : packF acc = (packB acc, 0) := by
        unfold packF
        rw [if_neg (by omega)]
      refine Evn.pos c1 (Evn.round ?_)
      simp only [casketref05_Unpack.j2]
      refine Evn.neg (by decide) (Evn.bind (rPack_ev hU) (Evn.bind (Same_ev _ b (by omega)) ?_))
      rw [hp]
      by_cases c2 : packB acc = b
      · exact (Evn.pos (decide_eq_true c2) (Evn.pure (acc, 0))).eq (if_pos ⟨hf, c1, by rw [c2]⟩).symm
      · exact (Evn.neg (by simpa using c2) (Evn.pure ([], 3))).eq (if_neg (fun h => c2 (congrArg Prod.fst h.2.2))).symm
    · refine (Evn.neg c1 (Evn.round ?_)).eq (if_neg (fun h => c1 h.2.1)).symm
      simp only [casketref05_Unpack.j2]
      exact Evn.pos (by trivial) (Evn.pure ([], 3))
  | succ d ih =>
    intro acc s i hi ha hU h01 hl
    have e : (d + 1) * w = w + d * w := by rw [Nat.add_mul]; omega
    have hws : w ≤ s.length := by omega
    obtain ⟨v0, v1⟩ := val_bd h01 hw hws
    refine Evn.round ?_
    simp only [casketref05_Unpack.l0]
    rw [wrap_s i (by omega), e, ← List.drop_drop]
    refine Evn.pos (by omega) (Evn.bind (rGet_at h01 hw hws) (Evn.neg (by decide) (Evn.pos (by omega) ?_)))
    simp only [wrapu64]
    by_cases c : valL 0 (s.take w) + m < 18446744073709551616
    · rw [decide_eq_false (by omega), show (valL 0 (s.take w) + m) % 18446744073709551616 = valL 0 (s.take w) + m by omega]
      have h2 := ih (acc ++ [valL 0 (s.take w) + m]) (s.drop w) (i + 1) (by omega) (by simp; omega) (U64_snoc hU ⟨by omega, c⟩) (is01_drop h01 w) (by rw [List.length_drop]; omega)
      refine h2.eq ?_
      simp only [unp, fine_cons, List.append_assoc, List.singleton_append, c, true_and]
    · rw [decide_eq_true (by omega), if_neg (fun h => c (fine_cons.1 h.1).1)]
      exact rLoopT hw n hn d _ (s.drop w) (i + 1) (by omega) (by simp; omega) (is01_drop h01 w) (by rw [List.length_drop]; omega)

theorem vread_good (u : Nat) (rest : List Int) (hu : u < 18446744073709551616) : vread (vn u ++ rest) 0 0 = ((u : Int), ((vn u).length : Int), 0) := by
  have hz : (u : Int) * 2 ^ (7 * 0) = (u : Int) := by rw [show 7 * 0 = 0 from rfl, Int.pow_zero, Int.mul_one]
  rw [vread_vn u 0 0 rest (by omega) (by rw [hz]; omega) (fun h => absurd h (by omega)), hz]
  simp
theorem vread_cases (b : List Int) (hb : Bytes b) : (∃ u rest, u < 18446744073709551616 ∧ b = vn u ++ rest) ∨ (vread b 0 0).2.2 ≠ 0 := by
  by_cases h3 : (vread b 0 0).2.2 = 0
  · left
    obtain ⟨u, e1, e2, e3, e4, e5, e6⟩ := vread_only b 0 0 _ _ hb (by omega) (Prod.ext_iff.mpr ⟨rfl, Prod.ext_iff.mpr ⟨rfl, h3⟩⟩)
    rw [show 7 * 0 = 0 from rfl, Int.pow_zero] at e6
    refine ⟨u, b.drop (vn u).length, by omega, ?_⟩
    have := List.take_append_drop (vn u).length b
    rw [e4] at this
    exact this.symm
  · exact .inr h3
theorem cgood_of {b : List Int} (hb : Bytes b) (hl : b.length < 140737488355328) : cgood b := ⟨hb, hl⟩
theorem unpackF_err {b : List Int} {n : Int} (h : ¬ (n < 0 ∨ 65536 < n)) (he : (vread b 0 0).2.2 ≠ 0) : unpackF b n = ([], (vread b 0 0).2.2) := by
  unfold unpackF
  rw [if_neg h, if_pos he]
theorem unpackF_nil {u : Nat} {n : Int} (hu : u < 18446744073709551616) (h : ¬ (n < 0 ∨ 65536 < n)) : unpackF (vn u ++ []) n = ([], 2) := by
  unfold unpackF
  rw [if_neg h, vread_good u [] hu]
  simp
theorem unpackF_cons {u : Nat} {x : Int} {rest : List Int} {n : Int} (hu : u < 18446744073709551616) (h : ¬ (n < 0 ∨ 65536 < n)) : unpackF (vn u ++ x :: rest) n = if 64 < x then ([], 3) else if 8 * (rest.length : Int) < n * x then ([], 2) else
    if Fine (unp x.toNat (u : Int) n.toNat (unpack rest)) ∧ endL ((unpack rest).drop (n.toNat * x.toNat)) = 0 ∧ packF (unp x.toNat (u : Int) n.toNat (unpack rest)) = (vn u ++ x :: rest, 0) then (unp x.toNat (u : Int) n.toNat (unpack rest), 0) else ([], 3) := by
  unfold unpackF
  rw [if_neg h, vread_good u _ hu]
  simp
theorem cV_good (u : Nat) (rest : List Int) (hu : u < 18446744073709551616) : cVarint (vn u ++ rest) = ((u : Int), rest, 0) := by
  unfold cVarint
  rw [vread_good u rest hu]
  simp
theorem Unpack_ev {b : List Int} (hb : Bytes b) (hl : b.length < 2000000) (n : Int) : Evn (fun k => forpack_Unpack.f k b n) (unpackF b n) := by
  have hg := cgood_of hb (by omega)
  unfold forpack_Unpack.f
  by_cases c : n < 0 ∨ 65536 < n
  · have hj : Evn (fun k => forpack_Unpack.j0 k b n true) (unpackF b n) := by
      refine Evn.round ?_
      simp only [forpack_Unpack.j0]
      unfold unpackF
      rw [if_pos (c := n < 0 ∨ 65536 < n) c]
      exact Evn.pos (by trivial) (Evn.pure _)
    by_cases c1 : n < 0
    · exact Evn.pos c1 hj
    · rw [decide_eq_true (show n > 65536 by omega)]
      exact Evn.neg c1 hj
  · rw [decide_eq_false (show ¬ n > 65536 by omega)]
    refine Evn.neg (by omega) (Evn.round ?_)
    simp only [forpack_Unpack.j0]
    have hN : cursor_New.f b = some b := by
      unfold cursor_New.f
      rw [if_pos hg]
    have hV : cursor_Cursor_Varint.f b = some ((cVarint b).1, (cVarint b).2.2, (cVarint b).2.1) := by
      unfold cursor_Cursor_Varint.f
      rw [if_pos hg]
    refine Evn.neg (by decide) (Evn.bindc hN (Evn.bindc hV ?_))
    rcases vread_cases b hb with ⟨u, t, hu, rfl⟩ | he
    · rw [cV_good u t hu]
      refine Evn.pos rfl ?_
      cases t with
      | nil =>
        rw [unpackF_nil hu c]
        refine Evn.bindc (a := (0, 2, [])) (by unfold cursor_Cursor_Byte.f; rw [if_pos (cgood_of Bytes.nil (by simp))]; rfl) ?_
        exact Evn.neg (by decide) (Evn.pure _)
      | cons x rest =>
        have hxr : Bytes (x :: rest) := fun y hy => hb y (List.mem_append.2 (.inr hy))
        have hx := hxr x List.mem_cons_self
        have hr : isBy rest := fun y hy => hxr y (List.mem_cons_of_mem _ hy)
        have hlen : (x :: rest).length < 2000000 := by rw [List.length_append] at hl; omega
        rw [List.length_cons] at hlen
        rw [unpackF_cons hu c]
        refine Evn.bindc (a := (x, 0, rest)) (by unfold cursor_Cursor_Byte.f; rw [if_pos (cgood_of hxr (by simp; omega))]; rfl) (Evn.pos rfl ?_)
        by_cases c2 : 64 < x
        · rw [if_pos (c := 64 < x) c2]
          exact Evn.pos c2 (Evn.pure _)
        · obtain ⟨w, rfl⟩ := Int.eq_ofNat_of_zero_le hx.1
          obtain ⟨n', rfl⟩ := Int.eq_ofNat_of_zero_le (show 0 ≤ n by omega)
          have hm : n' * w ≤ 65536 * 64 := Nat.mul_le_mul (by omega) (by omega)
          have hmi : (n' : Int) * (w : Int) = ((n' * w : Nat) : Int) := (Int.natCast_mul _ _).symm
          rw [if_neg (c := 64 < (w : Int)) c2]
          have hcr := cgood_of (b := rest) hr (by omega)
          refine Evn.neg c2 (Evn.bindc (a := ((rest.length : Int), rest)) (by unfold cursor_Cursor_Left.f; rw [if_pos hcr]) ?_)
          rw [show wrap64 (w : Int) = (w : Int) from wrap64_id (by omega) (by omega), hmi, wrap64_id (n := ((n' * w : Nat) : Int)) (by omega) (by omega)]
          simp only
          rw [wrap64_id (n := 8 * (rest.length : Int)) (by omega) (by omega)]
          by_cases c3 : 8 * (rest.length : Int) < ((n' * w : Nat) : Int)
          · rw [if_pos (c := 8 * (rest.length : Int) < ((n' * w : Nat) : Int)) c3]
            exact Evn.pos c3 (Evn.pure _)
          · rw [if_neg (c := 8 * (rest.length : Int) < ((n' * w : Nat) : Int)) c3]
            refine Evn.neg c3 (Evn.bindc (a := ((rest.length : Int), rest)) (by unfold cursor_Cursor_Left.f; rw [if_pos hcr]) (Evn.bindc (a := (rest, 0, [])) (by unfold cursor_Cursor_Bytes.f; rw [if_pos hcr]; simp [cBytes, show ¬ (rest.length : Int) < 0 by omega]) (Evn.bindc (a := unpack rest) (by show bits_NewReader.f rest = _; unfold bits_NewReader.f; rw [if_pos ⟨hr, by omega⟩]) (Evn.pos (by omega) (Evn.pos (by omega) ?_)))))
            have h2 := uLoop (m := (u : Int)) (w := w) (by omega) (by omega) n' (by omega) n' [] (unpack rest) 0 (by omega) rfl (fun y hy => by cases hy) (unpack_01 _) (by rw [unpack_length]; omega)
            refine h2.eq ?_
            simp only [List.nil_append, Int.toNat_natCast]
            by_cases c4 : Fine (unp w (u : Int) n' (unpack rest)) ∧ endL ((unpack rest).drop (n' * w)) = 0
            · have hiff := packF_iff hu (by omega) hr (by omega) (by omega) c4.1 c4.2
              simp only [c4.1, c4.2, true_and, hiff]
            · rw [if_neg (fun h => c4 ⟨h.1, h.2.1⟩), if_neg (fun h => c4 ⟨h.1, h.2.1⟩)]
    · rw [unpackF_err c he]
      exact Evn.neg he (Evn.pure _)
theorem rUnpack_ev {b : List Int} (hb : Bytes b) (hl : b.length < 2000000) (n : Int) : Evn (fun k => casketref05_Unpack.f k b n) (unpackF b n) := by
  unfold casketref05_Unpack.f
  by_cases c : n < 0 ∨ 65536 < n
  · have hj : Evn (fun k => casketref05_Unpack.j0 k b n true) (unpackF b n) := by
      refine Evn.round ?_
      simp only [casketref05_Unpack.j0]
      unfold unpackF
      rw [if_pos (c := n < 0 ∨ 65536 < n) c]
      exact Evn.pos (by trivial) (Evn.pure _)
    by_cases c1 : n < 0
    · exact Evn.pos c1 hj
    · rw [decide_eq_true (show n > 65536 by omega)]
      exact Evn.neg c1 hj
  · rw [decide_eq_false (show ¬ n > 65536 by omega)]
    refine Evn.neg (by omega) (Evn.round ?_)
    simp only [casketref05_Unpack.j0]
    refine Evn.neg (by decide) (Evn.bind (rRead_ev b hb (by omega)) ?_)
    rcases vread_cases b hb with ⟨u, t, hu, rfl⟩ | he
    · rw [vread_good u t hu]
      refine Evn.pos rfl ?_
      have hle : (vn u ++ t).length = (vn u).length + t.length := List.length_append
      cases t with
      | nil =>
        rw [unpackF_nil hu c]
        exact Evn.pos (by simp) (Evn.pure _)
      | cons x rest =>
        have hxr : Bytes (x :: rest) := fun y hy => hb y (List.mem_append.2 (.inr hy))
        have hx := hxr x List.mem_cons_self
        have hr : isBy rest := fun y hy => hxr y (List.mem_cons_of_mem _ hy)
        rw [List.length_cons] at hle
        have hrd : rd (vn u ++ x :: rest) ((vn u).length : Int) = x := rd_mid _ _ _ _ rfl
        rw [unpackF_cons hu c]
        simp only [hrd]
        refine Evn.neg (by omega) (Evn.pos (by omega) (Evn.pos (by omega) ?_))
        rw [show wrap64 x = x from wrap64_id (by omega) (by omega)]
        by_cases c2 : 64 < x
        · rw [if_pos (c := 64 < x) c2]
          exact Evn.pos c2 (Evn.pure _)
        · obtain ⟨w, rfl⟩ := Int.eq_ofNat_of_zero_le hx.1
          obtain ⟨n', rfl⟩ := Int.eq_ofNat_of_zero_le (show 0 ≤ n by omega)
          have hm : n' * w ≤ 65536 * 64 := Nat.mul_le_mul (by omega) (by omega)
          have hmi : (n' : Int) * (w : Int) = ((n' * w : Nat) : Int) := (Int.natCast_mul _ _).symm
          have hlr : wrap64 (8 * wrap64 (wrap64 (((vn u ++ (w : Int) :: rest).length : Int) - ((vn u).length : Int)) - 1)) = 8 * (rest.length : Int) := by
            rw [hle, wrap64_id (n := (((vn u).length + (rest.length + 1) : Nat) : Int) - ((vn u).length : Int)) (by omega) (by omega), wrap64_id (n := (((vn u).length + (rest.length + 1) : Nat) : Int) - ((vn u).length : Int) - 1) (by omega) (by omega), wrap64_id (by omega) (by omega)]
            omega
          rw [if_neg (c := 64 < (w : Int)) c2, hmi, wrap64_id (n := ((n' * w : Nat) : Int)) (by omega) (by omega), hlr, wrap_s _ (by omega)]
          refine Evn.neg c2 ?_
          by_cases c3 : 8 * (rest.length : Int) < ((n' * w : Nat) : Int)
          · rw [if_pos (c := 8 * (rest.length : Int) < ((n' * w : Nat) : Int)) c3]
            exact Evn.pos c3 (Evn.pure _)
          · rw [if_neg (c := 8 * (rest.length : Int) < ((n' * w : Nat) : Int)) c3, Int.toNat_natCast]
            have hd : (vn u ++ (w : Int) :: rest).drop ((vn u).length + 1) = rest := by simp
            rw [hd]
            refine Evn.neg c3 (Evn.pos (by omega) (Evn.pos (by omega) (Evn.bind (rOf_ev rest hr (by omega)) ?_)))
            have h2 := rLoopF (b := vn u ++ (w : Int) :: rest) (m := (u : Int)) (w := w) (by omega) (by omega) n' (by omega) n' [] (unpack rest) 0 (by omega) rfl (fun y hy => by cases hy) (unpack_01 _) (by rw [unpack_length]; omega)
            exact h2
    · rw [unpackF_err c he]
      exact Evn.neg he (Evn.pure _)
theorem awake_ev : Evn (fun k => casketlaw05_awake.f k) true := Evn.of (fun k => casketlaw05_awake.mono k) 40 (by decide +kernel)
theorem unpackF_len (b : List Int) (n : Int) : (unpackF b n).1.length ≤ 65536 := by
  unfold unpackF
  split
  · simp
  · rename_i c
    split
    · simp
    · split
      · simp
      · split
        · simp
        · split
          · simp
          · split
            · show (unp _ _ _ _).length ≤ _
              rw [unp_length]
              omega
            · simp
theorem same_ev (a b : List Int) (h : a.length < 140737488355328) : Evn (fun k => casketlaw05_same.f k a b) (decide (a = b)) := by
  unfold casketlaw05_same.f
  exact Evn.bind (Same5_ev a b h) (Evn.pure _)
theorem unpackF_cases (b : List Int) (hb : Bytes b) (n : Int) : ((unpackF b n).1 = [] ∧ (unpackF b n).2 ≠ 0) ∨ ((unpackF b n).2 = 0 ∧ packF (unpackF b n).1 = (b, 0) ∧ ((unpackF b n).1.length : Int) = n ∧ U64 (unpackF b n).1) := by
  by_cases c : n < 0 ∨ 65536 < n
  · left
    unfold unpackF
    rw [if_pos c]
    exact ⟨rfl, by decide⟩
  · rcases vread_cases b hb with ⟨u, t, hu, rfl⟩ | he
    · cases t with
      | nil =>
        rw [unpackF_nil hu c]
        exact .inl ⟨rfl, by decide⟩
      | cons x rest =>
        rw [unpackF_cons hu c]
        split
        · exact .inl ⟨rfl, by decide⟩
        · split
          · exact .inl ⟨rfl, by decide⟩
          · split
            · rename_i h
              refine .inr ⟨rfl, h.2.2, ?_, fun y hy => ⟨unp_pos (by omega) _ _ (unpack_01 _) y hy, h.1 y hy⟩⟩
              show ((unp _ _ _ _).length : Int) = n
              rw [unp_length]
              omega
            · exact .inl ⟨rfl, by decide⟩
    · rw [unpackF_err c he]
      exact .inl ⟨rfl, he⟩
end Go.Proofs.Ytkpghfklhipcnaa.ForP
