/- pad.Pad as a pure function, and its contract. -/
import Derived.Test.YtoghmpdamflehaaPadB
import Derived.Test.YtoghmpdamflehaaFix
import Derived.Test.YtoghmpdamflehaaPx2
import Derived.Laws.IdiomCopy
namespace Go.Proofs.Ytoghmpdamflehaa.P
open Go.RowKit Go.Proofs.Ytoghmpdamflehaa.Kit Go.Proofs.Ytoghmpdamflehaa.Var Go.Proofs.YtoghmpdamflehaaW.PrintWords Go.Proofs.YtoghmpdamflehaaW.PrintLast Go.Proofs.YtoghmpdamflehaaW.PrintMore
set_option linter.unusedVariables false
set_option linter.unusedSimpArgs false

theorem pairs9 : pairs 9 = [(0, 64), (1, 256), (2, 1024), (3, 4096), (4, 16384), (5, 65536), (6, 262144), (7, 1048576), (8, 4194304)] := by decide +kernel
theorem sizeP_eq (k : Int) : sizeP k = if k = 8 then 4194304 else if k = 7 then 1048576 else if k = 6 then 262144 else if k = 5 then 65536 else if k = 4 then 16384 else if k = 3 then 4096 else if k = 2 then 1024 else if k = 1 then 256 else if k = 0 then 64 else 0 := by
  unfold sizeP outOf
  rw [pairs9]
  simp only [List.foldl_cons, List.foldl_nil, eq_comm (b := k)]
theorem bucketP_eq (n : Int) : bucketP n = if n < 0 then (0, 1) else if n ≤ 60 then (0, 0) else if n ≤ 252 then (1, 0) else if n ≤ 1020 then (2, 0) else if n ≤ 4092 then (3, 0) else if n ≤ 16380 then (4, 0) else if n ≤ 65532 then (5, 0) else if n ≤ 262140 then (6, 0) else if n ≤ 1048572 then (7, 0) else if n ≤ 4194300 then (8, 0) else (0, 4) := by
  unfold bucketP bk
  rw [pairs9]
  have e0 : wrap64 (64 - 4) = 60 := by decide +kernel
  have e1 : wrap64 (256 - 4) = 252 := by decide +kernel
  have e2 : wrap64 (1024 - 4) = 1020 := by decide +kernel
  have e3 : wrap64 (4096 - 4) = 4092 := by decide +kernel
  have e4 : wrap64 (16384 - 4) = 16380 := by decide +kernel
  have e5 : wrap64 (65536 - 4) = 65532 := by decide +kernel
  have e6 : wrap64 (262144 - 4) = 262140 := by decide +kernel
  have e7 : wrap64 (1048576 - 4) = 1048572 := by decide +kernel
  have e8 : wrap64 (4194304 - 4) = 4194300 := by decide +kernel
  simp only [List.find?_cons, List.find?_nil, e0, e1, e2, e3, e4, e5, e6, e7, e8]
  clear e0 e1 e2 e3 e4 e5 e6 e7 e8
  split
  · rfl
  · by_cases c0 : n ≤ 60
    · simp [c0]
    · by_cases c1 : n ≤ 252
      · simp [c0, c1]
      · by_cases c2 : n ≤ 1020
        · simp [c0, c1, c2]
        · by_cases c3 : n ≤ 4092
          · simp [c0, c1, c2, c3]
          · by_cases c4 : n ≤ 16380
            · simp [c0, c1, c2, c3, c4]
            · by_cases c5 : n ≤ 65532
              · simp [c0, c1, c2, c3, c4, c5]
              · by_cases c6 : n ≤ 262140
                · simp [c0, c1, c2, c3, c4, c5, c6]
                · by_cases c7 : n ≤ 1048572
                  · simp [c0, c1, c2, c3, c4, c5, c6, c7]
                  · by_cases c8 : n ≤ 4194300
                    · simp [c0, c1, c2, c3, c4, c5, c6, c7, c8]
                    · simp [c0, c1, c2, c3, c4, c5, c6, c7, c8]
/-- A bucket that is found has room for so many bytes and four. -/
theorem bucket_room (n : Int) (h0 : 0 ≤ n) (h : n ≤ 4194300) : (bucketP n).2 = 0 ∧ 0 ≤ (bucketP n).1 ∧ (bucketP n).1 ≤ 8 ∧ n + 4 ≤ sizeP (bucketP n).1 ∧ sizeP (bucketP n).1 ≤ 4194304 ∧ 64 ≤ sizeP (bucketP n).1 := by
  rw [bucketP_eq, if_neg (by omega)]
  repeat' split
  all_goals first | omega | (rw [sizeP_eq]; simp; try omega)
theorem bucket_long (n : Int) (h : 4194300 < n) : bucketP n = (0, 4) := by
  rw [bucketP_eq, if_neg (by omega), if_neg (by omega), if_neg (by omega), if_neg (by omega), if_neg (by omega), if_neg (by omega), if_neg (by omega), if_neg (by omega), if_neg (by omega), if_neg (by omega)]
def padP (b : List Int) : List Int × Int := if 4194300 < b.length then ([], 4) else (fixB 4 (b.length : Int) ++ b ++ List.replicate ((sizeP (bucketP (b.length : Int)).1).toNat - 4 - b.length) 0, 0)
def pad_Pad.f (b : List Int) : Option (List Int × Int) := if b.length < 140737488355328 then some (padP b) else none
/-! copy(v[o:], ys) -/
theorem R_puts {W0 : World} {g n cap base : Nat} {ok : Nat → Prop} (hg : W0.heap.size ≤ g) (ys : List Int) : ∀ (o : Nat) (W : World) (xs : List Int), Kd.R (Kd.int .u8) 5 W base ok (.slice (some ⟨g, 0, none⟩) n cap) xs → o + ys.length ≤ xs.length → Below W0.heap.size W0 W →
    Kd.R (Kd.int .u8) 5 (W.setCells g o (ys.map (Value.int .u8))) base ok (.slice (some ⟨g, 0, none⟩) n cap) (xs.take o ++ ys ++ xs.drop (o + ys.length)) ∧ Below W0.heap.size W0 (W.setCells g o (ys.map (Value.int .u8))) := by
  induction ys with
  | nil =>
    intro o W xs h _ hB
    rw [List.append_nil, List.length_nil, Nat.add_zero, List.take_append_drop]
    exact ⟨h, hB⟩
  | cons y ys ih =>
    intro o W xs h hl hB
    rw [List.length_cons] at hl
    have h1 := Kd.R_putn h (o : Int) y
    rw [Int.toNat_natCast] at h1
    have h2 := ih (o + 1) (W.setCell ⟨g, o, none⟩ (.int .u8 y)) (xs.set o y) h1 (by rw [List.length_set]; omega) (below_set hB hg)
    have e : (xs.set o y).take (o + 1) ++ ys ++ (xs.set o y).drop (o + 1 + ys.length) = xs.take o ++ (y :: ys) ++ xs.drop (o + (y :: ys).length) := by
      rw [List.take_set, List.drop_set, if_pos (by omega), List.length_cons, show o + 1 + ys.length = o + (ys.length + 1) by omega, List.take_add_one, List.getElem?_eq_getElem (by omega)]
      rw [List.set_append, if_neg (by rw [List.length_take]; omega), List.length_take, show o - min o xs.length = 0 by omega]
      simp
    rw [e] at h2
    exact h2
theorem copy_at {P : Program} {ops : Array Oper} {rest : List Oper} {o : Oper} {a : Act} {Q : Exit → Act → World → Prop} {w0 W : World} (hgd : o.guard = none) (s x : Operand) (t t' : TypeId) {N : Tmp} (hN : o.dst = some N)
    (ho : o.op = .call { callee := .builtin .copy, args := #[s, x], argTypes := #[t, t'] }) (ht : P.underlying t = some (.slice 5)) (hinfo : (P.info? 5).map (·.size) = some 1)
    (g off n cap dl dc : Nat) (xs ys : List Int) (A : Option Addr) (c : Nat) (base : Nat) (ok : Nat → Prop) (hs : a.eval s = .slice (some ⟨g, off, none⟩) dl dc) (hx : a.eval x = .slice A ys.length c)
    (HO : Kd.R (Kd.int .u8) 5 W base ok (.slice (some ⟨g, 0, none⟩) n cap) xs) (HR : Kd.C (Kd.int .u8) W A ys.length ys) (hfit : off + ys.length ≤ xs.length) (hdl : ys.length ≤ dl) (hg : w0.heap.size ≤ g) (HB : Below w0.heap.size w0 W)
    (h : ∀ w1, Kd.R (Kd.int .u8) 5 w1 base ok (.slice (some ⟨g, 0, none⟩) n cap) (xs.take off ++ ys ++ xs.drop (off + ys.length)) → Below w0.heap.size w0 w1 → wpList P ops Q rest (a.put o.dst (.int .i64 (ys.length : Int))) w1) :
    wpList P ops Q (o :: rest) a W := by
  obtain ⟨r1, r2⟩ := R_puts hg ys off W xs HO hfit HB
  have fin : ∀ w1, (Builtin.copy_ #[t, t'] o.type #[.slice (some ⟨g, off, none⟩) dl dc, .slice A ys.length c]).run P W = .ok (goInt (ys.length : Int)) w1 → w1 = W.setCells g off (ys.map (Value.int .u8)) → wpList P ops Q (o :: rest) a W := by
    intro w1 hr e
    subst e
    refine wpList_plain hgd fun K hK => ?_
    unfold Oper.wp execOp
    simp only [ho, resolve, invoke, builtin, Sem.run_bind, Sem.run_pure, Result.andThen_ok, List.map_toArray, List.map_cons, List.map_nil, hs, hx, hr]
    exact hK _ _ (h _ r1 r2)
  rcases Nat.eq_zero_or_pos ys.length with h0 | h0
  · have e : ys = [] := List.eq_nil_of_length_eq_zero h0
    subst e
    exact fin W (run_copy_none W t t' o.type 5 _ A dl dc 0 c ht hinfo (Nat.zero_min _)) rfl
  · obtain ⟨ad, rfl, _⟩ := Kd.at_int HR 0 (by omega) (by omega)
    have hsrc : ∀ j u, (ys.map (Value.int .u8))[j]? = some u → W.cell? (ad.add j) = some u := by
      intro j u hu
      have hj : j < ys.length := by
        rcases Nat.lt_or_ge j ys.length with h | h
        · exact h
        · rw [List.getElem?_eq_none (by rw [List.length_map]; exact h)] at hu
          cases hu
      obtain ⟨ad2, e2, hc⟩ := Kd.at_int HR (j : Int) (by omega) (by omega)
      cases e2
      rw [Int.toNat_natCast] at hc
      rw [hc, ← hu, List.getElem?_map, List.getElem?_eq_getElem hj]
      simp [rd, List.getD_eq_getElem?_getD, List.getElem?_eq_getElem hj]
    have hcell : ∀ j, j < ys.length → W.cell? ⟨g, off + j, none⟩ = some (.int .u8 (rdOf 0 xs ((off + j : Nat) : Int))) ∧ W.frozen? ⟨g, off + j, none⟩ = false := by
      intro j hj
      have hn := (Kd.R_reads' HO).1
      have := Kd.R_celln 0 HO ((off + j : Nat) : Int) (by omega) (by omega)
      rwa [Int.toNat_natCast] at this
    have hml : (ys.map (Value.int .u8)).length = ys.length := List.length_map ..
    have hr := run_copy_cells (P := P) W t t' o.type 5 g off dl dc ad ys.length c (ys.map (Value.int .u8)) ht hinfo (by rw [hml]; exact (Nat.min_eq_left hdl).symm) hsrc
      (fun j hj => by rw [(hcell j (by omega)).1]; rfl) (fun j hj => (hcell j (by omega)).2) (by intro u hu; simp only [List.mem_map] at hu; obtain ⟨q, _, rfl⟩ := hu; rfl)
    rw [hml] at hr
    exact fin _ hr rfl
set_option maxHeartbeats 1000000 in
set_option maxRecDepth 100000 in
theorem pad_Pad.calls (A0 : Option Addr) (c0 : Nat) (b : List Int) (r1 : List Int) (r2 : Int) (w : World) (hr0 : Kd.C (Kd.int .u8) w A0 b.length b) (hc0 : b.length ≤ c0) (h : pad_Pad.f b = some (r1, r2)) :
    Calls Try.prog 14 #[.slice A0 b.length c0] w fun e w' => ∃ v0_ : Value, e = .returned (.tuple #[v0_, .int .i64 r2]) ∧ Kd.R (Kd.int .u8) 5 w' w.heap.size (fun _ => True) v0_ r1 ∧ Below w.heap.size w w' := by
  unfold pad_Pad.f at h
  split at h
  case isFalse => cases h
  case isTrue hl =>
    injection h with h
    unfold padP at h
    by_cases c : 4194300 < b.length
    · rw [if_pos c] at h
      injection h with h1 h2
      subst h1 h2
      have HBK := Aside0.mk (pad_Bucket.calls (b.length : Int) 0 4 w (by unfold pad_Bucket.f; rw [bucket_long _ (by omega)]))
      clear hr0 hc0 hl c
      go_enter Try.func14, Try.ntmps14
      go_wp2_with (go_at_call 10; refine HBK.out.mono ?_; rintro e w1 ⟨rfl, hb⟩; have HB := Aside0.mk hb; clear hb)
      go_ret2
      exact ⟨_, rfl, Kd.R_nil _ _ _ _ _, HB.out⟩
    · rw [if_neg c] at h
      injection h with h1 h2
      subst h1 h2
      obtain ⟨q1, q2, q3, q4, q5, q6⟩ := bucket_room (b.length : Int) (by omega) (by omega)
      generalize hk : (bucketP (b.length : Int)).1 = k at *
      have HBK := Aside0.mk (pad_Bucket.calls (b.length : Int) k 0 w (by unfold pad_Bucket.f; rw [← hk, ← q1]))
      obtain ⟨m, hm⟩ : ∃ m : Nat, sizeP k = (m : Int) := ⟨(sizeP k).toNat, by omega⟩
      rw [hm] at q4 q5 q6 ⊢
      rw [Int.toNat_natCast]
      have HSZ := Aside0.mk (show pad_Size.f k = some (m : Int) by unfold pad_Size.f; rw [hm])
      obtain ⟨kf, hkf⟩ := (Fix_ev (b.length : Int) 4 (by decide)).get
      have HFX := Aside0.mk hkf
      have hfl := fixB_length (b.length : Int) 4
      generalize fixB 4 (b.length : Int) = fx at HFX hfl ⊢
      have HN := Aside0.mk (show b.length + 4 ≤ m ∧ m ≤ 4194304 ∧ fx.length = 4 ∧ b.length ≤ c0 ∧ 64 ≤ m from ⟨by omega, by omega, hfl, hc0, by omega⟩)
      have HR := Aside0.mk hr0
      have hwb : IntKind.u64.wrap (b.length : Int) = (b.length : Int) := k64_id _ (by omega) (by omega)
      have p1 : (0 ≤ (m : Int)) = True := eq_true (by omega)
      clear hr0 hc0 hl c q1 q2 q3 q4 q5 q6 hm hk hkf hfl
      go_enter Try.func14, Try.ntmps14
      go_wp2_with (first
        | (go_at_call 10; refine HBK.out.mono ?_; rintro e w1 ⟨rfl, hb⟩; have HB1 := Aside0.mk hb; clear hb)
        | (go_at_call 12; refine (pad_Size.calls _ _ _ HSZ.out).mono ?_; rintro e w2 ⟨rfl, hb⟩; have HB2 := Aside0.mk (below_step HB1.out hb); clear hb)
        | ((with_reducible refine gate_dst (N := 18) rfl ?_); go_loud (refine Kd.R_make (Kd.int .u8) (w0 := w) w.heap.size 5 rfl (N := 18) rfl 28 _ _ rfl (m : Int) rfl rfl Try.underlying28 (.int .u8 0) 1 info5 rfl (by decide) (by omega) 0 (ok := fun _ => True) (okp := fun _ => True) rfl (fun _ hk => hk) trivial (by omega) (by have := HN.out; omega) HB2.out HB2.out.size ?_; intro v3 w3 ho hb hg_ hnew_; clear hg_ hnew_; rw [Int.toNat_natCast] at ho; obtain ⟨z, hz⟩ : ∃ z : List Int, List.replicate m 0 = z := ⟨_, rfl⟩; have hzl : z.length = m := (by rw [← hz, List.length_replicate]); rw [hz] at ho; have HZ := Aside0.mk hz; have HZL := Aside0.mk hzl; have HO3 := Aside0.mk ho; have HB3 := Aside0.mk hb; obtain ⟨g, q3, e3, gb, gl, gc⟩ := Kd.R_form ho (by have := HN.out; omega); subst e3; have HGB := Aside0.mk gb; have HQ := Aside0.mk (Kd.R_reads' ho).2.1; have z1 : (4 ≤ z.length) = True := eq_true (by have := HN.out; omega); have z2 : (q3 = 4) = False := eq_false (by have := HN.out; have := HQ.out; omega); have z3 : (4 ≤ (z.length : Int)) = True := eq_true (by have := HN.out; omega); have z4 : (4 ≤ q3) = True := eq_true (by have := HN.out; have := HQ.out; omega); have z5 : z.length ≤ q3 := HQ.out; have z6 : (4 ≤ (q3 : Int)) = True := eq_true (by have := HN.out; omega); clear ho hb hz hzl gb gl gc))
        | (go_at_call 20; refine (cursor_Fix.calls kf _ _ _ _ HFX.out).mono ?_; rintro e w4 ⟨v4, rfl, ho4, hb⟩; have HO4 := Aside0.mk (Kd.R_below HO3.out hb); have HB4 := Aside0.mk (below_step HB3.out hb); have HX4 := Aside0.mk ho4; clear hb ho4; obtain ⟨AX, qX, eX⟩ := Kd.R_slice HX4.out; subst eX)
        | ((with_reducible refine gate_builtin (b := .copy) (xs := #[.tmp 19, .tmp 23]) rfl ?_); go_loud (refine copy_at (w0 := w) rfl (.tmp 19) (.tmp 23) 28 28 (N := 24) rfl rfl Try.underlying28 (by kernel_rfl) g 0 z.length q3 z.length q3 z fx AX qX w.heap.size (fun _ => True) rfl rfl HO4.out (Kd.R_reads' HX4.out).2.2 (by have := HN.out; have := HZL.out; omega) (by have := HN.out; have := HZL.out; omega) HGB.out HB4.out ?_; intro w5 ho5 hb5; have HO5 := Aside0.mk ho5; have HB5 := Aside0.mk hb5; clear ho5 hb5))
        | ((with_reducible refine gate_builtin (b := .copy) (xs := #[.tmp 26, .tmp 27]) rfl ?_); go_loud (refine copy_at (w0 := w) rfl (.tmp 26) (.tmp 27) 28 28 (N := 28) rfl rfl Try.underlying28 (by kernel_rfl) g 4 z.length q3 (z.length - 4) (q3 - 4) _ b A0 c0 w.heap.size (fun _ => True) rfl rfl HO5.out (Kd.C_below HR.out HB5.out) (by have := HN.out; have := HZL.out; simp only [List.length_append, List.length_take, List.length_drop]; omega) (by have := HN.out; have := HZL.out; omega) HGB.out HB5.out ?_; intro w6 ho6 hb6; have HO6 := Aside0.mk ho6; have HB6 := Aside0.mk hb6; clear ho6 hb6)))
      trace_state
      go_ret2
      refine ⟨_, rfl, ?_, HB6.out⟩
      have h6 := HO6.out
      have hz := HZ.out
      have hn := HN.out
      have e : (z.take 0 ++ fx ++ z.drop (0 + fx.length)).take 4 ++ b ++ (z.take 0 ++ fx ++ z.drop (0 + fx.length)).drop (4 + b.length) = fx ++ b ++ List.replicate (m - 4 - b.length) 0 := by
        rw [← hz, List.take_zero, List.nil_append, Nat.zero_add, hn.2.2.1]
        congr 1
        · rw [List.take_append, hn.2.2.1, List.take_of_length_le (by omega)]
          simp
        · rw [List.drop_append, List.drop_eq_nil_of_le (by omega), List.nil_append, List.drop_replicate, List.drop_replicate, hn.2.2.1]
          congr 1
          omega
      rw [e] at h6
      exact h6
end Go.Proofs.Ytoghmpdamflehaa.P
