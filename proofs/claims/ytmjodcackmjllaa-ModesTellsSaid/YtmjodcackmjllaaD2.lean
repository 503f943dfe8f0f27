/- modes.Nexts: the modes that may come next, gone through by a range over a function. -/
import Derived.RangeFuncNested
import Derived.RangeFuncBound
import Derived.RangeFuncCalls
import Derived.RangeFuncLeaves
import Derived.Shelf.Abstract
import Derived.Shelf.RegionOpen
import Derived.WalkKit
import Derived.OwnWalkIn
import Derived.TacticsInMore
import Derived.LoopNIn
import Derived.LoopIn
import Derived.Test.YtmjodcackmjllaaD1
namespace Go.Proofs.Ytmjodcackmjllaa
open Go.RowKit Go.Shelf
set_option linter.unusedVariables false
set_option linter.unusedSimpArgs false
attribute [local go_sem] Oper.semAt_some

theorem Keeps.grown {a b : World} (h : Keeps a b) : a.grownBy b none := ⟨Below.os h, Below.tape h, Below.output h, h.size, fun k hk _ => h.block k hk⟩
/-- the blocks of S lie as they lay -/
structure KeepsS (S : Nat → Prop) (w w' : World) : Prop where
  os : w'.os = w.os
  tape : w'.tape = w.tape
  output : w'.output = w.output
  size : w.heap.size ≤ w'.heap.size
  block : ∀ k, S k → k < w.heap.size → w'.heap[k]? = w.heap[k]?
theorem KeepsS.refl (S : Nat → Prop) (w : World) : KeepsS S w w := ⟨rfl, rfl, rfl, Nat.le_refl _, fun _ _ _ => rfl⟩
theorem KeepsS.trans {S : Nat → Prop} {a b c : World} (h : KeepsS S a b) (k : KeepsS S b c) : KeepsS S a c :=
  ⟨k.os.trans h.os, k.tape.trans h.tape, k.output.trans h.output, Nat.le_trans h.size k.size, fun i hi hl => (k.block i hi (Nat.lt_of_lt_of_le hl h.size)).trans (h.block i hi hl)⟩
theorem Keeps.onS {a b : World} (h : Keeps a b) (S : Nat → Prop) : KeepsS S a b := ⟨Below.os h, Below.tape h, Below.output h, h.size, fun k _ hk => h.block k hk⟩
theorem KeepsS.keeps {S : Nat → Prop} {w0 a b : World} (h : Keeps w0 a) (k : KeepsS S a b) (hS : ∀ k, k < w0.heap.size → S k) : Keeps w0 b :=
  ⟨k.os.trans (Below.os h), k.tape.trans (Below.tape h), k.output.trans (Below.output h), Nat.le_trans h.size k.size, fun i hi => (k.block i (hS i hi) (Nat.lt_of_lt_of_le hi h.size)).trans (h.block i hi)⟩
theorem KeepsS.box {S : Nat → Prop} {B t : Nat} {c : Array Value} {a b : World} (k : KeepsS S a b) (h : Box a B t c) (hB : S B) : Box b B t c := (k.block B hB h.lt).trans h
theorem Below.onS {n : Nat} {S : Nat → Prop} {a b : World} (h : Below n a b) (hn : ∀ k, S k → k < n) (hs : a.heap.size ≤ b.heap.size) : KeepsS S a b :=
  ⟨Below.os h, Below.tape h, Below.output h, hs, fun k hk _ => Below.block h k (hn k hk)⟩
/-- the blocks below n₀, and the two boxes of the closure -/
def onF (n₀ B : Nat) (k : Nat) : Prop := k < n₀ ∨ k = B ∨ k = B + 1

set_option maxRecDepth 100000 in
set_option maxHeartbeats 2000000 in
/-- the closure that Nexts hands back -/
theorem nexts1_in (n : Nat) (hn : 1 ≤ n) (l B : Nat) (m : RMedl) (c : CS) (w0 W : World) (hm : m.In w0) (hkW : Keeps w0 W) (hB : Box W B 25 #[.int .i64 m.nodes, .int .i64 m.slot, .int .i64 m.gap, .int .i64 m.window, .int .i64 m.drift, .int .i64 m.delay, m.cv, .slice m.ma m.mn m.mc]) (hA : Box W (B + 1) 27 #[.int .i64 c.t, .int .i64 c.p, .int .i64 c.m, .int .i64 c.x, .int .i64 c.b])
    (J Jx : List Nat → World → Prop) (hJ : AbidesFrom W.heap.size J)
    (hY : ∀ (pre : List Nat) (p : Nat) W1, J pre W1 → pre.length < (nextsP m c).length → YieldAt Fence.wide (n - 1) Try.prog l #[.int .i64 (p : Int)] W1 fun e W' =>
      (e = .returned (.bool true) ∧ J (pre ++ [p]) W' ∧ KeepsS (onF w0.heap.size B) W1 W') ∨ (e = .returned (.bool false) ∧ Jx (pre ++ [p]) W')) (h0 : J [] W) :
    CallsIn Fence.wide n Try.prog 57 #[.func (.yield l) #[] #[], .pointer (some ⟨B, 0, none⟩), .pointer (some ⟨B + 1, 0, none⟩)] W fun e W' => (∃ v, e = .returned v) ∧
      ((∃ ys, ys = nextsP m c ∧ J ys W') ∨ (∃ pre, pre <+: nextsP m c ∧ Jx pre W')) := by
  have HJ := Lib.hid hJ
  have HB := Lib.hid hB
  have HA := Lib.hid hA
  have HK := Lib.hid hkW
  have HM := Lib.hid hm
  have HJ0 := Lib.hid h0
  have HAS := Lib.hid (asks_any m c)
  have HMY : Hid (asksB m c = true → ∀ (k : Nat) w, m.In w → Calls Try.prog 58 #[m.val, c.val, .int .i64 k] w fun e w' => e = .returned (.bool (mayP m c k)) ∧ Keeps w w') := Lib.hid (fun h k w hm => may_any m c k w hm h)
  have HN : Hid (nextsP m c = cond (asksB m c) (nextsTo m c m.xs.length) []) := Lib.hid rfl
  have HE : Hid (asksB m c = true → asksE m c = 0) := Lib.hid (fun h => by rw [← asksE_eq] at h; exact of_decide_eq_true h)
  have HE2 : Hid (asksB m c = false → (asksE m c != 0) = true) := Lib.hid (fun h => by rw [← asksE_eq] at h; rw [bne_iff_ne]; exact of_decide_eq_false h)
  have HTY := Lib.hid (fun k => @nextsTo_yes m c k)
  have HTN := Lib.hid (fun k => @nextsTo_no m c k)
  have HTL := Lib.hid (fun k n => @nextsTo_lt m c k n)
  have HTP := Lib.hid (fun k n => @nextsTo_prefix m c k n)
  have HT0 := Lib.hid (nextsTo_zero m c)
  obtain ⟨O, hO⟩ : ∃ O, O = asksB m c := ⟨_, rfl⟩
  obtain ⟨E, hE⟩ : ∃ E, E = asksE m c := ⟨_, rfl⟩
  obtain ⟨F, hF⟩ : ∃ F, F = nextsP m c := ⟨_, rfl⟩
  obtain ⟨T, hT⟩ : ∃ T, T = nextsTo m c := ⟨_, rfl⟩
  obtain ⟨Y, hYY⟩ : ∃ Y, Y = mayP m c := ⟨_, rfl⟩
  rw [← hO] at HMY HE HE2
  rw [← hE] at HAS HE HE2
  rw [← hF, ← hO, ← hT] at HN
  rw [← hYY] at HMY
  simp only [← hT, ← hYY] at HTY HTN HTL HTP HT0
  rw [← hF] at hY ⊢
  clear hO hE hF hT hYY
  obtain ⟨ca, cc, hcv, hc1, hc2, hc3⟩ := hm.c.shape
  clear hc3
  have hlen := hm.m.len
  have hcap := hm.m.hcap
  have hmax := hm.m.hmax
  clear hB hA hkW hm hJ h0
  obtain ⟨no, sl, ga, wi, dr, de, cv, cs, ma, mn, mc, xs⟩ := m
  obtain ⟨ct, cp, cm, cx, cb⟩ := c
  simp only at hcv hc1 hlen hcap hmax HN HB HA
  subst hlen hcv
  have HS0 : Hid (∀ k, k < w0.heap.size → onF w0.heap.size B k) := Lib.hid (fun k hk => .inl hk)
  have HSB : Hid (onF w0.heap.size B B ∧ onF w0.heap.size B (B + 1)) := Lib.hid ⟨.inr (.inl rfl), .inr (.inr rfl)⟩
  have m0 := HB.out.cell 0 _ rfl
  have m1 := HB.out.cell 1 _ rfl
  have m2 := HB.out.cell 2 _ rfl
  have m3 := HB.out.cell 3 _ rfl
  have m4 := HB.out.cell 4 _ rfl
  have m5 := HB.out.cell 5 _ rfl
  have m6 := HB.out.cell 6 _ rfl
  have m7 := HB.out.cell 7 _ rfl
  have ml := HB.out.lt
  have c0 := HA.out.cell 0 _ rfl
  have c1 := HA.out.cell 1 _ rfl
  have c2 := HA.out.cell 2 _ rfl
  have c3 := HA.out.cell 3 _ rfl
  have c4 := HA.out.cell 4 _ rfl
  have cl := HA.out.lt
  refine callsIn_of_wp Try.func57 rfl trivial ?_ rfl
  simp only [Try.ntmps57, List.size_toArray, List.length_cons, List.length_nil, Nat.reduceAdd, Nat.reduceSub, Array.replicate_succ, Array.replicate_zero, List.push_toArray, List.append_toArray, List.nil_append, List.cons_append]
  gi_wp2_with fail
  refine ⟨trivial, ?_⟩
  with_reducible refine (callsIn_wide.2 (HAS.out _ (by exact HM.out.keeps HK.out))).mono ?_
  rintro e w1 ⟨rfl, hk1⟩
  have HK1 := Lib.hid (HK.out.trans hk1)
  have HJ1 := Lib.hid (HJ.out [] W w1 none HJ0.out hk1.grown (by simp))
  have HB1 := Lib.hid (HB.out.keeps hk1)
  have HA1 := Lib.hid (HA.out.keeps hk1)
  have hs1 := hk1.size
  clear hk1 HJ0 m0 m1 m2 m3 m4 m5 m6 m7 ml c0 c1 c2 c3 c4 cl HB HA HK
  have m0 := HB1.out.cell 0 _ rfl
  have m1 := HB1.out.cell 1 _ rfl
  have m2 := HB1.out.cell 2 _ rfl
  have m3 := HB1.out.cell 3 _ rfl
  have m4 := HB1.out.cell 4 _ rfl
  have m5 := HB1.out.cell 5 _ rfl
  have m6 := HB1.out.cell 6 _ rfl
  have m7 := HB1.out.cell 7 _ rfl
  have ml := HB1.out.lt
  have c0 := HA1.out.cell 0 _ rfl
  have c1 := HA1.out.cell 1 _ rfl
  have c2 := HA1.out.cell 2 _ rfl
  have c3 := HA1.out.cell 3 _ rfl
  have c4 := HA1.out.cell 4 _ rfl
  have cl := HA1.out.lt
  cases O
  · simp only [cond_false] at HN
    have he := HE2.out rfl
    gi_wp2_with fail
    refine bodyPost_ret (results_none rfl _ _ _) rfl ?_
    exact ⟨⟨_, rfl⟩, .inl ⟨_, HN.out.symm, HJ1.out⟩⟩
  simp only [cond_true] at HN
  obtain rfl : E = 0 := HE.out rfl
  replace HMY := Lib.hid (HMY.out rfl)
  gi_wp2_with fail
  gi_loopw [12] (fun i wr => ∃ k : Nat, k ≤ xs.length ∧ i = .int .i64 k ∧ Hid (J (T k) wr) ∧ Hid (KeepsS (onF w0.heap.size B) w1 wr)) (fun i _ => xs.length - (intOf i).toNat)
  case atStart => exact ⟨0, Nat.zero_le _, rfl, Lib.hid (by rw [HT0.out]; exact HJ1.out), KeepsS.refl _ _⟩
  case round =>
    obtain ⟨k, hk, rfl, HJk, HKk⟩ := hrel
    have HKw := Lib.hid (HKk.out.keeps HK1.out HS0.out)
    have HBk := Lib.hid (HKk.out.box HB1.out HSB.out.1)
    have HAk := Lib.hid (HKk.out.box HA1.out HSB.out.2)
    have hsz := HKk.out.size
    clear m0 m1 m2 m3 m4 m5 m6 m7 ml c0 c1 c2 c3 c4 cl
    have m0 := HBk.out.cell 0 _ rfl
    have m1 := HBk.out.cell 1 _ rfl
    have m2 := HBk.out.cell 2 _ rfl
    have m3 := HBk.out.cell 3 _ rfl
    have m4 := HBk.out.cell 4 _ rfl
    have m5 := HBk.out.cell 5 _ rfl
    have m6 := HBk.out.cell 6 _ rfl
    have m7 := HBk.out.cell 7 _ rfl
    have ml := HBk.out.lt
    have c0 := HAk.out.cell 0 _ rfl
    have c1 := HAk.out.cell 1 _ rfl
    have c2 := HAk.out.cell 2 _ rfl
    have c3 := HAk.out.cell 3 _ rfl
    have c4 := HAk.out.cell 4 _ rfl
    have cl := HAk.out.lt
    by_cases hlt : k < xs.length
    · have HLTX := Lib.hid hlt
      gi_wp2_with fail
      refine ⟨trivial, ?_⟩
      with_reducible refine (callsIn_wide.2 (HMY.out k _ (by exact HM.out.keeps HKw.out))).mono ?_
      cases hh : Y (k : Int)
      · have HS := Lib.hid (HTN.out k hh)
        clear hh
        rintro e w2 ⟨rfl, hk2⟩
        have HJ2 := Lib.hid (HJ.out _ wr w2 none HJk.out hk2.grown (by simp))
        have HK2 := Lib.hid (HKk.out.trans (hk2.onS _))
        clear hk2 m0 m1 m2 m3 m4 m5 m6 m7 ml c0 c1 c2 c3 c4 cl
        gi_wp2_with fail
        (try refine ⟨fun f h => (by cases h), ?_⟩)
        gi_wp2_with fail
        go_roundw
        case rel => exact ⟨k + 1, by omega, by go_num, by rw [HS.out]; exact HJ2, HK2⟩
        case measure => simp [intOf]; omega
      · have HS := Lib.hid (HTY.out k hh)
        have HLT := Lib.hid (HTL.out k xs.length hh hlt)
        clear hh
        rintro e w2 ⟨rfl, hk2⟩
        obtain ⟨fn, tmps, assign, body, hy, hR⟩ := hY (T k) k w2 (HJ.out _ wr w2 none HJk.out hk2.grown (by simp)) (by rw [HN.out]; exact HLT.out)
        try dsimp only at hy
        clear m0 m1 m2 m3 m4 m5 m6 m7 ml c0 c1 c2 c3 c4 cl
        gi_wp2_with fail
        have HK2 := Lib.hid hk2
        clear hk2
        refine hR.mono ?_
        rintro e w3 (⟨rfl, hJ3, hk3⟩ | ⟨rfl, hJx3⟩)
        · have HJ3 := Lib.hid hJ3
          have HK3 := Lib.hid ((HKk.out.trans (HK2.out.onS _)).trans hk3)
          clear hJ3 hk3 hy hR
          gi_wp2
          go_roundw
          case rel => exact ⟨k + 1, by omega, by go_num, by rw [HS.out]; exact HJ3, HK3⟩
          case measure => simp [intOf]; omega
        · have HJx3 := Lib.hid hJx3
          clear hJx3 hy hR
          gi_wp2
          refine bodyPost_ret (results_none rfl _ _ _) rfl ?_
          exact ⟨⟨_, rfl⟩, .inr ⟨_, (by rw [HN.out]; exact HTP.out (k + 1) xs.length (by have := HLTX.out; omega)), by rw [HS.out]; exact HJx3.out⟩⟩
    · obtain rfl : k = xs.length := by omega
      gi_wp2
      go_end0
      exact ⟨⟨_, rfl⟩, .inl ⟨_, HN.out.symm, HJk.out⟩⟩
/-- the value that Nexts hands back -/
theorem nexts_stops (n : Nat) (hn : 1 ≤ n) (B : Nat) (m : RMedl) (c : CS) (w0 w : World) (hm : m.In w0) (hk : Keeps w0 w) (hB : Box w B 25 #[.int .i64 m.nodes, .int .i64 m.slot, .int .i64 m.gap, .int .i64 m.window, .int .i64 m.drift, .int .i64 m.delay, m.cv, .slice m.ma m.mn m.mc]) (hA : Box w (B + 1) 27 #[.int .i64 c.t, .int .i64 c.p, .int .i64 c.m, .int .i64 c.x, .int .i64 c.b]) :
    SeqStopsK Fence.wide n Try.prog 57 #[.pointer (some ⟨B, 0, none⟩), .pointer (some ⟨B + 1, 0, none⟩)] (fun p : Nat => #[Value.int .i64 (p : Int)]) (KeepsS (onF w0.heap.size B)) (fun ys => ys = nextsP m c)
      (fun pre => pre <+: nextsP m c) (nextsP m c).length w := fun l J Jx W hW hJ hJx hY h0 => by
  have hkW : Keeps w W := hW
  exact nexts1_in n hn l B m c w0 W hm (hk.trans hkW) (hB.keeps hkW) (hA.keeps hkW) J Jx hJ hY h0
set_option maxHeartbeats 1000000 in
theorem nextsf_any (m : RMedl) (c : CS) (w : World) : Calls Try.prog 18 #[m.val, c.val] w fun e w' =>
    e = .returned (.func (.func 57) #[] #[.pointer (some ⟨w.heap.size, 0, none⟩), .pointer (some ⟨w.heap.size + 1, 0, none⟩)]) ∧
      w' = (w.alloc (.cells #[.int .i64 m.nodes, .int .i64 m.slot, .int .i64 m.gap, .int .i64 m.window, .int .i64 m.drift, .int .i64 m.delay, m.cv, .slice m.ma m.mn m.mc] 25)).alloc (.cells #[.int .i64 c.t, .int .i64 c.p, .int .i64 c.m, .int .i64 c.x, .int .i64 c.b] 27) := by
  obtain ⟨no, sl, ga, wi, dr, de, cv, cs, ma, mn, mc, xs⟩ := m
  obtain ⟨ct, cp, cm, cx, cb⟩ := c
  show Calls Try.prog 18 #[.agg #[.int .i64 no, .int .i64 sl, .int .i64 ga, .int .i64 wi, .int .i64 dr, .int .i64 de, cv, .slice ma mn mc], .agg #[.int .i64 ct, .int .i64 cp, .int .i64 cm, .int .i64 cx, .int .i64 cb]] w _
  go_enter Try.func18, Try.ntmps18
  go_wp2
  go_ret
  exact ⟨rfl, rfl⟩
end Go.Proofs.Ytmjodcackmjllaa
