/- For all lists of up to 400 numbers and every place: what is packed is unpacked to the same; cut off, or with a byte more, it is refused. No condition. -/
import Derived.Test.YtkpghfklhipcnaaFor
import Derived.Test.YtkpghfklhipcnaaPx11
import Derived.Test.YtkpghfklhipcnaaPx6
namespace Go.Proofs.Ytkpghfklhipcnaa.Pure
open Go.RowKit Go.Proofs.Ytkpghfklhipcnaa.P Go.Proofs.Ytkpghfklhipcnaa.Kit Go.Proofs.Ytkpghfklhipcnaa.Var Go.Proofs.Ytkpghfklhipcnaa.ForP Go.Proofs.YtkpghfklhipcnaaW.PrintWords Go.Proofs.YtkpghfklhipcnaaW.PrintLast Go.Proofs.YtkpghfklhipcnaaW.PrintMore
set_option linter.unusedVariables false
set_option linter.unusedSimpArgs false

theorem mask10 (a : Int) : Go.bits .and .i64 a 1023 = ((a % 1024).toNat : Int) := by
  have h := and_mask a 10 (by omega)
  rw [show (2 : Int) ^ 10 = 1024 by decide] at h
  rw [show (1023 : Int) = 1024 - 1 by decide, h]
  omega
theorem packB_by {l : List Int} (h : U64 l) : Bytes (packB l) := by
  have hw := wL_le h
  intro x hx
  rw [packB] at hx
  rcases List.mem_append.1 hx with hx | hx
  · exact vn_byte _ x hx
  · rcases List.mem_cons.1 hx with rfl | hx
    · omega
    · exact pack_by (flatB_01 _ _ _) x hx
theorem unpack_pack_l {l : List Int} (h : U64 l) (t : List Int) : unp (wL l) (mnL l) l.length (unpack (pack (flatB (mnL l) (wL l) l) ++ t)) = l := by
  rw [unpack_append, unpack_pack (flatB_01 _ _ _), List.append_assoc]
  exact flat_unp l _ (fun v hv => ⟨(mn_fits h hv).1, (mn_fits h hv).2.2.2.2⟩)
theorem flat_bits {l : List Int} (h : U64 l) : (pack (flatB (mnL l) (wL l) l)).length = (l.length * wL l + 7) / 8 := by rw [pack_length, flatB_length]
theorem back {l : List Int} (h : U64 l) (hl : l.length ≤ 400) : unpackF (packB l) (l.length : Int) = (l, 0) := by
  have hw := wL_le h
  have hb := bd_of h
  have hm : ((mnL l).toNat : Int) = mnL l := Int.toNat_of_nonneg hb.1
  have hc : ¬ ((l.length : Int) < 0 ∨ 65536 < (l.length : Int)) := by omega
  have hlen := flat_bits h
  have hp : packF l = (packB l, 0) := by
    unfold packF
    rw [if_neg (by omega)]
  have hu := unpack_pack_l h []
  rw [List.append_nil] at hu
  have hn : l.length * wL l ≤ 400 * 64 := Nat.mul_le_mul hl hw
  have hni : (l.length : Int) * (wL l : Int) = ((l.length * wL l : Nat) : Int) := (Int.natCast_mul _ _).symm
  rw [packB, unpackF_cons (by omega) hc, if_neg (by omega), hni, hlen, if_neg (by omega), Int.toNat_natCast, Int.toNat_natCast, hm, hu]
  refine if_pos ⟨fun x hx => (h x hx).2, ?_, by rw [hp]; rfl⟩
  rw [unpack_pack (flatB_01 _ _ _), List.drop_left' (flatB_length _ _ _)]
  unfold endL
  rw [List.length_replicate, flatB_length, if_neg (by omega), if_pos (fun x hx => List.eq_of_mem_replicate hx)]
theorem more {l : List Int} (h : U64 l) (hl : l.length ≤ 400) : unpackF (packB l ++ [0]) (l.length : Int) = ([], 3) := by
  have hw := wL_le h
  have hb := bd_of h
  have hc : ¬ ((l.length : Int) < 0 ∨ 65536 < (l.length : Int)) := by omega
  have hlen := flat_bits h
  have hn : l.length * wL l ≤ 400 * 64 := Nat.mul_le_mul hl hw
  have hni : (l.length : Int) * (wL l : Int) = ((l.length * wL l : Nat) : Int) := (Int.natCast_mul _ _).symm
  have hlen2 : (pack (flatB (mnL l) (wL l) l) ++ [0]).length = (l.length * wL l + 7) / 8 + 1 := by rw [List.length_append, hlen]; rfl
  rw [packB, List.append_assoc, List.cons_append, unpackF_cons (by omega) hc, if_neg (by omega), hni, hlen2, if_neg (by omega), Int.toNat_natCast, Int.toNat_natCast]
  refine if_neg (fun hh => ?_)
  have he := hh.2.1
  unfold endL at he
  rw [List.length_drop, unpack_length, hlen2, if_pos (by omega)] at he
  exact absurd he (by decide)
theorem cut {l : List Int} (h : U64 l) (hl : l.length ≤ 400) (k : Nat) (hk : k < (packB l).length) : (unpackF ((packB l).take k) (l.length : Int)).2 ≠ 0 := by
  have hby : Bytes ((packB l).take k) := (packB_by h).take k
  have hb := bd_of h
  rcases unpackF_cases _ hby (l.length : Int) with ⟨_, h2⟩ | ⟨_, h2, h3, h4⟩
  · exact h2
  · exfalso
    generalize (unpackF ((packB l).take k) (l.length : Int)).1 = o at *
    have hb2 := bd_of h4
    have hlo : o.length = l.length := by omega
    have hp : packF o = (packB o, 0) := by
      unfold packF
      rw [if_neg (by omega)]
    rw [hp] at h2
    have e1 : packB o = (packB l).take k := congrArg Prod.fst h2
    have e2 : packB o ++ (packB l).drop k = packB l := by rw [e1, List.take_append_drop]
    rw [packB, packB, List.append_assoc, List.cons_append] at e2
    obtain ⟨e3, e4⟩ := vn_cut (by omega) (by omega) e2
    injection e4 with e4 e5
    have e6 : wL o = wL l := by omega
    have e7 := congrArg List.length e1
    rw [List.length_take] at e7
    have e8 : (packB o).length = (packB l).length := by
      rw [packB, packB, List.length_append, List.length_append, List.length_cons, List.length_cons, flat_bits h4, flat_bits h, e3, e6, hlo]
    omega
theorem ForpackBack : casketlaw05_ForpackBack.Pure := by
  intro l a1 hm h8 hl h1
  have hu := u64_of hl
  refine Evn.get (g := fun k => casketlaw05_ForpackBack.f k l a1) ?_
  unfold casketlaw05_ForpackBack.f
  refine Evn.bind awake_ev ?_
  by_cases c0 : (l.length : Int) > 400
  · exact Evn.pos c0 (Evn.pure _)
  · have hp : packF l = (packB l, 0) := by
      unfold packF
      rw [if_neg (by omega)]
    have hby := packB_by hu
    have hlen := packB_len hu
    refine Evn.neg c0 (Evn.bind (Pack_ev hu (by omega)) ?_)
    rw [hp]
    refine Evn.bind (Unpack_ev hby (by omega) _) ?_
    rw [back hu (by omega)]
    refine Evn.pos rfl (Evn.pos rfl (Evn.bind (same_ev l l (by omega)) (Evn.round ?_)))
    rw [decide_eq_true rfl]
    simp only [casketlaw05_ForpackBack.j0, mask10]
    have hby0 : Bytes (packB l ++ [0]) := hby.append (fun x hx => by rw [List.mem_singleton] at hx; omega)
    have tail : Evn (fun k => (some (([] : List Int) : List Int)).bind fun y345 => (if y345.length + (packB l).length < 140737488355328 then ((some (y345 ++ packB l : List Int)).bind fun y348 => (if y348.length < 140737488355328 then ((forpack_Unpack.f k (y348 ++ [0]) (l.length : Int)).bind fun bt354 => (if true = true then (some (bt354.2 == 3)) else (some false))) else (none))) else (none))) true := by
      refine Evn.bindc rfl (Evn.pos (by rw [List.length_nil]; omega) (Evn.bindc rfl (Evn.pos (by rw [List.nil_append]; omega) ?_)))
      rw [List.nil_append]
      refine Evn.bind (Unpack_ev hby0 (by rw [List.length_append, List.length_singleton]; omega) _) ?_
      rw [more hu (by omega)]
      exact Evn.pos (by trivial) (Evn.pure _)
    refine Evn.neg (by decide) ?_
    by_cases c1 : (((a1 % 1024).toNat : Nat) : Int) < ((packB l).length : Int)
    · refine Evn.pos c1 (Evn.pos (by omega) (Evn.pos (by omega) (Evn.bind (Unpack_ev (hby.take _) (by rw [List.length_take]; omega) _) (Evn.neg ?_ tail))))
      rw [Int.toNat_natCast]
      exact cut hu (by omega) _ (by omega)
    · exact Evn.neg c1 tail
end Go.Proofs.Ytkpghfklhipcnaa.Pure
