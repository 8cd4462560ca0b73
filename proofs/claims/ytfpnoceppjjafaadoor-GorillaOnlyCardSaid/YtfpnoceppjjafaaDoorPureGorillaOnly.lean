/- For all bytes up to 300 and every number: what is decoded is encoded to the same bytes. No condition. -/
import Derived.Test.YtfpnoceppjjafaaDoorGback
import Derived.Test.YtfpnoceppjjafaaDoorPx10
namespace Go.Proofs.YtfpnoceppjjafaaDoor.Pure
open Go.RowKit Go.Proofs.YtfpnoceppjjafaaDoor.P Go.Proofs.YtfpnoceppjjafaaDoor.Kit Go.Proofs.YtfpnoceppjjafaaDoor.Var Go.Proofs.YtfpnoceppjjafaaDoorW.PrintWords Go.Proofs.YtfpnoceppjjafaaDoorW.PrintLast Go.Proofs.YtfpnoceppjjafaaDoorW.PrintMore
set_option linter.unusedVariables false
theorem loop_facts : ∀ (m : Nat) (out : List Int) (p : Int × Int) (s : List Int), (∀ x ∈ out, U x) → okW p → is01 s → (gLoop m out p s).2 = 0 → (gLoop m out p s).1.length = out.length + m ∧ ∀ x ∈ (gLoop m out p s).1, U x
  | 0, out, p, s, hu, hp, h01, h => ⟨rfl, hu⟩
  | m + 1, out, p, s, hu, hp, h01, h => by
    rw [gLoop] at h ⊢
    have hf := gOne_facts hu hp h01
    by_cases he : (gOne out p s).2.1 = 0
    · rw [if_neg (fun h => h he)] at h ⊢
      have hu2 : ∀ x ∈ out ++ [(gOne out p s).1], U x := fun x hx => by
        rcases List.mem_append.1 hx with h | h
        · exact hu x h
        · rw [List.mem_singleton.1 h]; exact (hf.2 he).1
      have := loop_facts m _ _ _ hu2 (hf.2 he).2 hf.1 h
      exact ⟨by rw [this.1, List.length_append, List.length_singleton]; omega, this.2⟩
    · rw [if_pos he] at h
      exact absurd h he
theorem loop_bad : ∀ (m : Nat) (out : List Int) (p : Int × Int) (s : List Int), (gLoop m out p s).2 ≠ 0 → (gLoop m out p s).1 = []
  | 0, out, p, s, h => absurd rfl h
  | m + 1, out, p, s, h => by
    rw [gLoop] at h ⊢
    by_cases he : (gOne out p s).2.1 = 0
    · rw [if_neg (fun h => h he)] at h ⊢
      exact loop_bad m _ _ _ h
    · rw [if_pos he]
theorem dec_cases (b : List Int) (n : Int) : ((gDec b n).1 = [] ∧ (gDec b n).2 ≠ 0) ∨ ∃ o, gDec b n = (o, 0) ∧ (gEnc o) = (b, 0) ∧ (o.length : Int) = n ∧ o.length ≤ 65536 ∧ ∀ x ∈ o, U x := by
  unfold gDec
  by_cases c : n < 0 ∨ 65536 < n
  · rw [if_pos c]
    exact .inl ⟨rfl, by decide⟩
  · rw [if_neg c]
    unfold gEnd
    by_cases he : (gLoop n.toNat [] (-1, 0) (unpack b)).2 = 0
    · rw [if_neg (fun h => h he)]
      have hf := loop_facts n.toNat [] (-1, 0) (unpack b) (by simp) (.inl rfl) (unpack_01 b) he
      rw [List.length_nil, Nat.zero_add] at hf
      by_cases hp : pack (gB (gLoop n.toNat [] (-1, 0) (unpack b)).1 (gLoop n.toNat [] (-1, 0) (unpack b)).1.length) = b
      · rw [if_pos hp]
        refine .inr ⟨_, rfl, ?_, by rw [hf.1]; omega, by rw [hf.1]; omega, hf.2⟩
        rw [gEnc_of (by rw [hf.1]; omega), hp]
      · rw [if_neg hp]
        exact .inl ⟨rfl, by decide⟩
    · rw [if_pos he]
      exact .inl ⟨rfl, he⟩
theorem GorillaOnly : casketlaw09_GorillaOnly.Pure := by
  intro b n hm h8 hb hn
  have hb := by_of hb
  refine Evn.get (g := fun k => casketlaw09_GorillaOnly.f k b n) ?_
  unfold casketlaw09_GorillaOnly.f
  refine Evn.bind awake_ev ?_
  by_cases c0 : (b.length : Int) > 300
  · exact Evn.pos c0 (Evn.pure _)
  · refine Evn.neg c0 (Evn.bindc (Dec_f hb (by omega) n) ?_)
    rcases dec_cases b n with ⟨h1, h2⟩ | ⟨o, h1, h2, h3, h4, h5⟩
    · refine Evn.neg h2 (Evn.pos rfl ?_)
      rw [h1]
      exact Evn.pure _
    · rw [h1]
      refine Evn.pos rfl (Evn.bindc (Enc_f h5 (show o.length < 140737488355328 by omega)) (Evn.pos rfl (Evn.pos h3 ?_)))
      rw [h2]
      exact Evn.pos rfl (Evn.bind (Same1_self b (by omega)) (Evn.pure _))
end Go.Proofs.YtfpnoceppjjafaaDoor.Pure
