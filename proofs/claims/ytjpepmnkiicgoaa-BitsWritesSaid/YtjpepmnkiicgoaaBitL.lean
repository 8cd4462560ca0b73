/- Bits: the document's example, and the plain laws that several statements share. -/
import Derived.Test.YtjpepmnkiicgoaaRefBit
import Derived.Test.YtjpepmnkiicgoaaPx3
import Derived.Test.YtjpepmnkiicgoaaBitSW
import Derived.Test.YtjpepmnkiicgoaaBitS
import Derived.Test.YtjpepmnkiicgoaaPx1
namespace Go.Proofs.Ytjpepmnkiicgoaa.BitL
open Go.RowKit Go.Proofs.Ytjpepmnkiicgoaa.P Go.Proofs.Ytjpepmnkiicgoaa.Kit Go.Proofs.Ytjpepmnkiicgoaa.Var Go.Proofs.YtjpepmnkiicgoaaW.PrintWords Go.Proofs.YtjpepmnkiicgoaaW.PrintLast Go.Proofs.YtjpepmnkiicgoaaW.PrintMore
set_option linter.unusedVariables false
set_option linter.unusedSimpArgs false

theorem Put_f (s : List Int) (v w : Int) (hs : s.length + 64 < 16777216) (h0 : 0 ≤ v) (h1 : v < 18446744073709551616) : bits_Writer_Put.f s v w = some (wPut s v w) := by
  unfold bits_Writer_Put.f
  rw [if_pos ⟨hs, h0, by omega⟩]
theorem Bytes_f (s : List Int) (hs : s.length < 140737488355328) : bits_Writer_Bytes.f s = some (pack s, s) := by
  unfold bits_Writer_Bytes.f
  rw [if_pos hs]
theorem New_f (b : List Int) (hb : isBy b) (hl : b.length < 2097152) : bits_NewReader.f b = some (unpack b) := by
  unfold bits_NewReader.f
  rw [if_pos ⟨hb, hl⟩]
theorem Width_f (v : Int) (h0 : 0 ≤ v) (h1 : v < 18446744073709551616) : bits_Width.f v = some (Lib.bitLen v.toNat : Int) := by
  unfold bits_Width.f bits_Len64.f
  rw [if_pos ⟨h0, by omega⟩, Option.bind_some]
theorem awake_f : casketlaw01_awake.f = some true := by
  unfold casketlaw01_awake.f
  rw [Put_f [] 5 3 (by decide) (by decide) (by decide)]
  simp only [Option.bind_some]
  have e1 : wPut [] 5 3 = (0, [1, 0, 1]) := by decide +kernel
  rw [e1]
  simp only
  rw [Put_f [1, 0, 1] 1 2 (by decide) (by decide) (by decide)]
  have e2 : wPut [1, 0, 1] 1 2 = (0, [1, 0, 1, 0, 1]) := by decide +kernel
  rw [e2]
  simp only [Option.bind_some]
  rw [Bytes_f _ (by decide)]
  have e3 : pack [1, 0, 1, 0, 1] = [168] := by decide +kernel
  rw [e3]
  simp only [Option.bind_some, if_true]
  unfold bits_Writer_Len.f
  simp only [Option.bind_some]
  rw [if_pos (by decide), if_pos (by decide), if_pos (by decide), if_pos (by decide), Width_f 8 (by decide) (by decide)]
  decide +kernel
theorem rPut_wPut (s : List Int) (v w : Int) : rPut s v w = ((wPut s v w).2, (wPut s v w).1) := by
  unfold rPut wPut
  split <;> rfl
theorem wPut_01 {s : List Int} (v w : Int) (h : is01 s) : is01 (wPut s v w).2 := by
  unfold wPut
  split
  · exact h
  · exact is01_append h (bitsOf_01 _ _)
theorem wPut_len (s : List Int) (v w : Int) : (wPut s v w).2.length ≤ s.length + 64 := by
  unfold wPut
  split
  · simp
  · simp only [List.length_append, bitsOf_length]
    omega
theorem rGet2_01 {l : List Int} (w : Int) (h : is01 l) : is01 (rGet2 l w).2.1 := by
  unfold rGet2
  split
  · exact h
  · split
    · exact h
    · exact is01_drop h _
theorem rGet_rGet2 (l : List Int) (w : Int) : rGet l w = ((rGet2 l w).1, (rGet2 l w).2.2, (rGet2 l w).2.1) := by
  unfold rGet rGet2
  split
  · rfl
  · split <;> rfl
end Go.Proofs.Ytjpepmnkiicgoaa.BitL
