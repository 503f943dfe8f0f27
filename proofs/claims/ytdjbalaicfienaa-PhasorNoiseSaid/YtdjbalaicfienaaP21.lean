/- The walks of layer 3, 15: Receive, of the program and of the reference. -/
import Derived.Test.YtdjbalaicfienaaP20
import Derived.Test.YtdjbalaicfienaaP16
namespace Go.Proofs.Ytdjbalaicfienaa
open Go.RowKit
set_option linter.unusedVariables false
set_option linter.unusedSimpArgs false
def recRes (xs : List Smp) : List Bool × Int := if (findRes xs 0).2.2 = 0 then decRes xs (findRes xs 0).1 (findRes xs 0).2.1 else ([], (findRes xs 0).2.2)
theorem found_le (xs : List Smp) : -9223372036854775808 ≤ (findRes xs 0).2.1 ∧ (findRes xs 0).2.1 ≤ 9223372036854775807 := by
  unfold findRes
  rw [if_neg (by decide)]
  cases findAt xs (Int.toNat 0) (xs.length - Int.toNat 0) with
  | none => exact ⟨show (-9223372036854775808 : Int) ≤ 0 by decide, show (0 : Int) ≤ 9223372036854775807 by decide⟩
  | some t =>
    simp only [foundR, quarterN]
    generalize (decide (0 < (matchRes xs t).1.i) && decide (((matchRes xs t).1.q.natAbs : Int) ≤ (matchRes xs t).1.i.natAbs)) = x
    generalize (decide (0 < (matchRes xs t).1.q) && decide (((matchRes xs t).1.i.natAbs : Int) ≤ (matchRes xs t).1.q.natAbs)) = y
    generalize (decide ((matchRes xs t).1.i < 0) && decide (((matchRes xs t).1.q.natAbs : Int) ≤ (matchRes xs t).1.i.natAbs)) = z
    revert x y z
    decide
set_option maxRecDepth 100000 in
set_option maxHeartbeats 4000000 in
theorem receive_any (a : Option Addr) (n cap : Nat) (xs : List Smp) (w : World) (hx : SRow w a n cap xs) (hn : n ≤ 100000) :
    Calls Try.prog 57 #[.slice a n cap] w fun e w' => Res w w' e (recRes xs) := by
  have HX := Lib.hid hx
  have hq := found_le xs
  obtain ⟨⟨t, q, E⟩, hM⟩ : ∃ M, M = findRes xs 0 := ⟨_, rfl⟩
  have HR : Hid (recRes xs = if E = 0 then decRes xs t q else ([], E)) := Lib.hid (by unfold recRes; rw [← hM])
  rw [← hM] at hq
  simp only at hq
  have HM := Lib.hid hM
  clear hM hx
  have HZ := Lib.hid (Box.new w 26 #[.int .i64 0, .slice none 0 0])
  have HK0 : Hid (Keeps w (w.alloc (Obj.cells #[.int .i64 0, .slice none 0 0] 26))) := Lib.hid ((Keeps.refl w).alloc _)
  go_enter Try.func57, Try.ntmps57
  go_wp2_with fail
  with_reducible refine (find_any a n cap xs 0 _ (by exact HX.out.keeps HK0.out) hn (by decide)).mono ?_
  rw [← HM.out]
  rintro e w1 ⟨rfl, hk1⟩
  have HK := Lib.hid (HK0.out.trans hk1)
  have HZ1 := Lib.hid (HZ.out.keeps hk1)
  have z01 := HZ1.out.cell 0 _ rfl
  have z11 := HZ1.out.cell 1 _ rfl
  have zf1 := HZ1.out.frozen
  clear hk1
  by_cases hE : E = 0
  · subst hE
    rw [if_pos rfl] at HR
    go_wp2_with fail
    with_reducible refine (decode_any a n cap xs t q _ (HX.out.keeps HK.out) hn hq.1 hq.2).mono ?_
    rw [← HR.out]
    obtain ⟨⟨bs, C⟩, hS⟩ : ∃ R, R = recRes xs := ⟨_, rfl⟩
    have HS := Lib.hid hS
    rw [← HS.out]
    clear hS
    rintro e w2 ⟨y, rfl, hy, hf, hk⟩
    have hs := HZ1.out.lt
    have HK2 := Lib.hid (HK.out.trans hk)
    have HZ2 := Lib.hid (HZ1.out.keeps hk)
    have z02 := HZ2.out.cell 0 _ rfl
    have z12 := HZ2.out.cell 1 _ rfl
    have zf2 := HZ2.out.frozen
    clear hk
    obtain ⟨a2, cap2, rfl⟩ := hy.shape
    have HY := Lib.hid hy
    have HF := Lib.hid hf
    clear hy hf
    simp only [RB.val]
    go_wp2_with fail
    refine bodyPost_ret (v := .tuple #[.agg #[.int .i64 bs.length, .slice a2 ((bs.length + 7) / 8) cap2], .int .i64 C]) (by simp [results, Try.results57, go_sem, *]) rfl ?_
    rw [← HS.out]
    refine ⟨⟨bs.length, a2, (bs.length + 7) / 8, cap2, pack bs⟩, rfl, (HY.out.put HF.out hs _ _).put HF.out hs _ _, HF.out.mono (by omega), ?_⟩
    repeat (with_reducible refine Keeps.setCell ?_ (by first | (simp; done) | (simp; omega) | exact Nat.le_refl _) _)
    exact HK2.out
  · rw [if_neg hE] at HR
    have hd : decide (E = 0) = false := decide_eq_false hE
    go_wp2_with fail
    refine bodyPost_ret (v := .tuple #[RB.zero.val, .int .i64 E]) (by simp [results, Try.results57, go_sem, RB.val, RB.zero, *]) rfl (Res.no2 HR.out ⟨rfl, ?_⟩)
    repeat (with_reducible refine Keeps.setCell ?_ (by first | (simp; done) | (simp; omega) | exact Nat.le_refl _) _)
    exact HK.out
set_option maxRecDepth 100000 in
set_option maxHeartbeats 4000000 in
theorem rreceive_any (a : Option Addr) (n cap : Nat) (xs : List Smp) (w : World) (hx : SRow w a n cap xs) (hn : n ≤ 100000) :
    Calls Try.prog 58 #[.slice a n cap] w fun e w' => Res w w' e (recRes xs) := by
  have HX := Lib.hid hx
  have hq := found_le xs
  obtain ⟨⟨t, q, E⟩, hM⟩ : ∃ M, M = findRes xs 0 := ⟨_, rfl⟩
  have HR : Hid (recRes xs = if E = 0 then decRes xs t q else ([], E)) := Lib.hid (by unfold recRes; rw [← hM])
  rw [← hM] at hq
  simp only at hq
  have HM := Lib.hid hM
  clear hM hx
  have HZ := Lib.hid (Box.new w 26 #[.int .i64 0, .slice none 0 0])
  have HK0 : Hid (Keeps w (w.alloc (Obj.cells #[.int .i64 0, .slice none 0 0] 26))) := Lib.hid ((Keeps.refl w).alloc _)
  go_enter Try.func58, Try.ntmps58
  go_wp2_with fail
  with_reducible refine (rfind_any a n cap xs 0 _ (by exact HX.out.keeps HK0.out) hn (by decide)).mono ?_
  rw [← HM.out]
  rintro e w1 ⟨rfl, hk1⟩
  have HK := Lib.hid (HK0.out.trans hk1)
  have HZ1 := Lib.hid (HZ.out.keeps hk1)
  have z01 := HZ1.out.cell 0 _ rfl
  have z11 := HZ1.out.cell 1 _ rfl
  have zf1 := HZ1.out.frozen
  clear hk1
  by_cases hE : E = 0
  · subst hE
    rw [if_pos rfl] at HR
    go_wp2_with fail
    with_reducible refine (rdecode_any a n cap xs t q _ (HX.out.keeps HK.out) hn hq.1 hq.2).mono ?_
    rw [← HR.out]
    obtain ⟨⟨bs, C⟩, hS⟩ : ∃ R, R = recRes xs := ⟨_, rfl⟩
    have HS := Lib.hid hS
    rw [← HS.out]
    clear hS
    rintro e w2 ⟨y, rfl, hy, hf, hk⟩
    have hs := HZ1.out.lt
    have HK2 := Lib.hid (HK.out.trans hk)
    have HZ2 := Lib.hid (HZ1.out.keeps hk)
    have z02 := HZ2.out.cell 0 _ rfl
    have z12 := HZ2.out.cell 1 _ rfl
    have zf2 := HZ2.out.frozen
    clear hk
    obtain ⟨a2, cap2, rfl⟩ := hy.shape
    have HY := Lib.hid hy
    have HF := Lib.hid hf
    clear hy hf
    simp only [RB.val]
    go_wp2_with fail
    refine bodyPost_ret (v := .tuple #[.agg #[.int .i64 bs.length, .slice a2 ((bs.length + 7) / 8) cap2], .int .i64 C]) (by simp [results, Try.results58, go_sem, *]) rfl ?_
    rw [← HS.out]
    refine ⟨⟨bs.length, a2, (bs.length + 7) / 8, cap2, pack bs⟩, rfl, (HY.out.put HF.out hs _ _).put HF.out hs _ _, HF.out.mono (by omega), ?_⟩
    repeat (with_reducible refine Keeps.setCell ?_ (by first | (simp; done) | (simp; omega) | exact Nat.le_refl _) _)
    exact HK2.out
  · rw [if_neg hE] at HR
    have hd : decide (E = 0) = false := decide_eq_false hE
    go_wp2_with fail
    refine bodyPost_ret (v := .tuple #[RB.zero.val, .int .i64 E]) (by simp [results, Try.results58, go_sem, RB.val, RB.zero, *]) rfl (Res.no2 HR.out ⟨rfl, ?_⟩)
    repeat (with_reducible refine Keeps.setCell ?_ (by first | (simp; done) | (simp; omega) | exact Nat.le_refl _) _)
    exact HK.out
end Go.Proofs.Ytdjbalaicfienaa
