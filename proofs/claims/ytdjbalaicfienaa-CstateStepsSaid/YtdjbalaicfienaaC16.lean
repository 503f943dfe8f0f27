/- cstate.Members: the members of a state, gone through by a range over a function. -/
import Derived.RangeFuncNested
import Derived.RangeFuncBound
import Derived.RangeFuncCalls
import Derived.RangeFuncLeaves
import Derived.Shelf.Abstract
import Derived.Shelf.RegionOpen
import Derived.WalkKit
import Derived.OwnWalkIn
import Derived.TacticsInMore
import Derived.LoopNIn
import Derived.LoopIn
import Derived.Test.YtdjbalaicfienaaC11
namespace Go.Proofs.Ytdjbalaicfienaa
open Go.RowKit Go.Shelf
set_option linter.unusedVariables false
set_option linter.unusedSimpArgs false
attribute [local go_sem] Oper.semAt_some

theorem Keeps.grown {a b : World} (h : Keeps a b) : a.grownBy b none := ⟨Below.os h, Below.tape h, Below.output h, h.size, fun k hk _ => h.block k hk⟩
/-- the blocks below n₀, and one more, lie as they lay -/
structure KeepsOn (n₀ B : Nat) (w w' : World) : Prop where
  os : w'.os = w.os
  tape : w'.tape = w.tape
  output : w'.output = w.output
  size : w.heap.size ≤ w'.heap.size
  block : ∀ k, k < n₀ ∨ k = B → k < w.heap.size → w'.heap[k]? = w.heap[k]?
theorem KeepsOn.refl (n₀ B : Nat) (w : World) : KeepsOn n₀ B w w := ⟨rfl, rfl, rfl, Nat.le_refl _, fun _ _ _ => rfl⟩
theorem KeepsOn.trans {n₀ B : Nat} {a b c : World} (h : KeepsOn n₀ B a b) (k : KeepsOn n₀ B b c) : KeepsOn n₀ B a c :=
  ⟨k.os.trans h.os, k.tape.trans h.tape, k.output.trans h.output, Nat.le_trans h.size k.size, fun i hi hl => (k.block i hi (Nat.lt_of_lt_of_le hl h.size)).trans (h.block i hi hl)⟩
theorem Keeps.on {a b : World} (h : Keeps a b) (n₀ B : Nat) : KeepsOn n₀ B a b := ⟨Below.os h, Below.tape h, Below.output h, h.size, fun k _ hk => h.block k hk⟩
theorem KeepsOn.keeps {B : Nat} {w0 a b : World} (h : Keeps w0 a) (k : KeepsOn w0.heap.size B a b) : Keeps w0 b :=
  ⟨k.os.trans (Below.os h), k.tape.trans (Below.tape h), k.output.trans (Below.output h), Nat.le_trans h.size k.size, fun i hi => (k.block i (.inl hi) (Nat.lt_of_lt_of_le hi h.size)).trans (h.block i hi)⟩
theorem KeepsOn.box {n₀ B t : Nat} {c : Array Value} {a b : World} (k : KeepsOn n₀ B a b) (h : Box a B t c) : Box b B t c := (k.block B (.inr rfl) h.lt).trans h
theorem Below.on {n n₀ B : Nat} {a b : World} (h : Below n a b) (hn : n₀ ≤ n) (hB : B < n) (hs : a.heap.size ≤ b.heap.size) : KeepsOn n₀ B a b :=
  ⟨Below.os h, Below.tape h, Below.output h, hs, fun k hk _ => Below.block h k (by omega)⟩


/-- the members among the first k nodes -/
def memsTo (c : CS) (k : Nat) : List Nat := (List.range k).filter fun j => hasOf c (j : Int)
theorem memsTo_zero (c : CS) : memsTo c 0 = [] := rfl
theorem memsTo_yes {c : CS} {k : Nat} (h : hasOf c (k : Int) = true) : memsTo c (k + 1) = memsTo c k ++ [k] := by simp [memsTo, List.range_succ, h]
theorem memsTo_no {c : CS} {k : Nat} (h : hasOf c (k : Int) = false) : memsTo c (k + 1) = memsTo c k := by simp [memsTo, List.range_succ, h]
theorem memsTo_mono (c : CS) {k n : Nat} (h : k ≤ n) : (memsTo c k).length ≤ (memsTo c n).length := by
  obtain ⟨d, rfl⟩ := Nat.exists_eq_add_of_le h
  induction d with
  | zero => exact Nat.le_refl _
  | succ d ih =>
    refine Nat.le_trans (ih (by omega)) ?_
    rw [← Nat.add_assoc]
    cases hh : hasOf c ((k + d : Nat) : Int)
    · rw [memsTo_no hh]; exact Nat.le_refl _
    · rw [memsTo_yes hh]; simp
theorem memsTo_lt {c : CS} {k : Nat} (h : hasOf c (k : Int) = true) (hk : k < 8) : (memsTo c k).length < (memsTo c 8).length := by
  have h1 := memsTo_mono c (show k + 1 ≤ 8 by omega)
  rw [memsTo_yes h] at h1
  simp at h1
  omega

set_option maxRecDepth 100000 in
set_option maxHeartbeats 2000000 in
/-- the closure that Members hands back -/
theorem mems1_in (n : Nat) (hn : 1 ≤ n) (l B : Nat) (c : CS) (w0 W : World) (hkW : Keeps w0 W) (hB : Box W B 23 #[.int .i64 c.t, .int .i64 c.p, .int .i64 c.m, .int .i64 c.x, .int .i64 c.b])
    (J Jx : List Nat → World → Prop) (hJ : AbidesFrom W.heap.size J)
    (hY : ∀ (pre : List Nat) (p : Nat) W1, J pre W1 → pre.length < (memsTo c 8).length → YieldAt Fence.wide (n - 1) Try.prog l #[.int .i64 (p : Int)] W1 fun e W' =>
      (e = .returned (.bool true) ∧ J (pre ++ [p]) W' ∧ KeepsOn w0.heap.size B W1 W') ∨ (e = .returned (.bool false) ∧ Jx (pre ++ [p]) W')) (h0 : J [] W) :
    CallsIn Fence.wide n Try.prog 71 #[.func (.yield l) #[] #[], .pointer (some ⟨B, 0, none⟩)] W fun e W' => (∃ v, e = .returned v) ∧
      ((∃ ys, ys = memsTo c 8 ∧ J ys W') ∨ (∃ pre, (∃ k, k ≤ 8 ∧ pre = memsTo c k) ∧ Jx pre W')) := by
  have HJ := Lib.hid hJ
  have HB := Lib.hid hB
  have HK := Lib.hid hkW
  have HJ0 := Lib.hid h0
  clear hB hkW hJ h0
  obtain ⟨t, p, m, x, b⟩ := c
  refine callsIn_of_wp Try.func71 rfl trivial ?_ rfl
  simp only [Try.ntmps71, List.size_toArray, List.length_cons, List.length_nil, Nat.reduceAdd, Nat.reduceSub, Array.replicate_succ, Array.replicate_zero, List.push_toArray, List.append_toArray, List.nil_append, List.cons_append]
  gi_wp2_with fail
  gi_loopw [4] (fun i wr => ∃ k : Nat, k ≤ 8 ∧ i = .int .i64 k ∧ Hid (J (memsTo ⟨t, p, m, x, b⟩ k) wr) ∧ Hid (KeepsOn w0.heap.size B W wr)) (fun i _ => 8 - (intOf i).toNat)
  case atStart => exact ⟨0, Nat.zero_le _, rfl, HJ0, KeepsOn.refl _ _ _⟩
  case round =>
    obtain ⟨k, hk, rfl, HJk, HKk⟩ := hrel
    have hbx := HKk.out.box HB.out
    have c0 := hbx.cell 0 _ rfl
    have c1 := hbx.cell 1 _ rfl
    have c2 := hbx.cell 2 _ rfl
    have c3 := hbx.cell 3 _ rfl
    have c4 := hbx.cell 4 _ rfl
    have hsz := HKk.out.size
    clear hbx
    by_cases hlt : k < 8
    · cases hh : hasOf ⟨t, p, m, x, b⟩ (k : Int)
      · have HS := Lib.hid (memsTo_no hh)
        have HH := Lib.hid hh
        clear hh
        gi_wp2_with fail
        refine ⟨trivial, ?_⟩
        with_reducible refine (callsIn_wide.2 (chas_any ⟨t, p, m, x, b⟩ k _)).mono ?_
        rw [HH.out]
        rintro e w2 ⟨rfl, hk2⟩
        have HJ2 := Lib.hid (HJ.out _ wr w2 none HJk.out hk2.grown (by simp))
        have HK2 := Lib.hid (HKk.out.trans (hk2.on _ _))
        clear hk2 c0 c1 c2 c3 c4
        gi_wp2_with fail
        refine ⟨fun f h => (by cases h), ?_⟩
        gi_wp2_with fail
        go_roundw
        case rel => exact ⟨k + 1, by omega, by go_num, by rw [HS.out]; exact HJ2, HK2⟩
        case measure => simp [intOf]; omega
      · have HS := Lib.hid (memsTo_yes hh)
        have HLT := Lib.hid (memsTo_lt hh hlt)
        have HH := Lib.hid hh
        clear hh
        gi_wp2_with fail
        refine ⟨trivial, ?_⟩
        with_reducible refine (callsIn_wide.2 (chas_any ⟨t, p, m, x, b⟩ k _)).mono ?_
        rw [HH.out]
        rintro e w2 ⟨rfl, hk2⟩
        obtain ⟨fn, tmps, assign, body, hy, hR⟩ := hY (memsTo ⟨t, p, m, x, b⟩ k) k w2 (HJ.out _ wr w2 none HJk.out hk2.grown (by simp)) HLT.out
        try dsimp only at hy
        clear c0 c1 c2 c3 c4
        gi_wp2_with fail
        have HK2 := Lib.hid hk2
        clear hk2
        refine hR.mono ?_
        rintro e w3 (⟨rfl, hJ3, hk3⟩ | ⟨rfl, hJx3⟩)
        · have HJ3 := Lib.hid hJ3
          have HK3 := Lib.hid ((HKk.out.trans (HK2.out.on _ _)).trans hk3)
          clear hJ3 hk3 hy hR
          gi_wp2
          go_roundw
          case rel => exact ⟨k + 1, by omega, by go_num, by rw [HS.out]; exact HJ3, HK3⟩
          case measure => simp [intOf]; omega
        · have HJx3 := Lib.hid hJx3
          clear hJx3 hy hR
          gi_wp2
          refine bodyPost_ret (results_none rfl _ _ _) rfl ?_
          exact ⟨⟨_, rfl⟩, .inr ⟨_, ⟨k + 1, by omega, rfl⟩, by rw [HS.out]; exact HJx3.out⟩⟩
    · obtain rfl : k = 8 := by omega
      gi_wp2
      go_end0
      exact ⟨⟨_, rfl⟩, .inl ⟨_, rfl, HJk.out⟩⟩

theorem SeqStopsK.weaken {α : Type} {F : Fence} {n : Nat} {P : Program} {g : Nat} {lb : Array Value} {encs : α → Array Value} {Kp Kp' : World → World → Prop} {S Sp : List α → Prop} {N : Nat} {w : World}
    (h : SeqStopsK F n P g lb encs Kp S Sp N w) (hk : ∀ a b, Kp' a b → Kp a b) : SeqStopsK F n P g lb encs Kp' S Sp N w :=
  fun l J Jx W hW hJ hJx hY h0 => h l J Jx W hW hJ hJx (fun pre x W1 h1 h2 => by
    obtain ⟨fn, tmps, asg, bo, hy, hR⟩ := hY pre x W1 h1 h2
    refine ⟨fn, tmps, asg, bo, hy, hR.mono ?_⟩
    rintro e W' (⟨h3, h4, h5⟩ | h3)
    · exact .inl ⟨h3, h4, hk _ _ h5⟩
    · exact .inr h3) h0

/-- the value that Members hands back -/
theorem mems_stops (n : Nat) (hn : 1 ≤ n) (B : Nat) (c : CS) (w0 w : World) (hk : Keeps w0 w) (hB : Box w B 23 #[.int .i64 c.t, .int .i64 c.p, .int .i64 c.m, .int .i64 c.x, .int .i64 c.b]) :
    SeqStopsK Fence.wide n Try.prog 71 #[.pointer (some ⟨B, 0, none⟩)] (fun p : Nat => #[Value.int .i64 (p : Int)]) (KeepsOn w0.heap.size B) (fun ys => ys = memsTo c 8)
      (fun pre => ∃ k, k ≤ 8 ∧ pre = memsTo c k) (memsTo c 8).length w := fun l J Jx W hW hJ hJx hY h0 => by
  have hkW : Keeps w W := hW
  exact mems1_in n hn l B c w0 W (hk.trans hkW) (hB.keeps hkW) J Jx hJ hY h0
set_option maxHeartbeats 1000000 in
theorem members_any (c : CS) (w : World) : Calls Try.prog 36 #[c.val] w fun e w' =>
    e = .returned (.func (.func 71) #[] #[.pointer (some ⟨w.heap.size, 0, none⟩)]) ∧ w' = w.alloc (.cells #[.int .i64 c.t, .int .i64 c.p, .int .i64 c.m, .int .i64 c.x, .int .i64 c.b] 23) := by
  obtain ⟨t, p, m, x, b⟩ := c
  show Calls Try.prog 36 #[.agg #[.int .i64 t, .int .i64 p, .int .i64 m, .int .i64 x, .int .i64 b]] w _
  go_enter Try.func36, Try.ntmps36
  go_wp2
  go_ret
  exact ⟨rfl, rfl⟩
end Go.Proofs.Ytdjbalaicfienaa
