/- bits.All: the bits of bits, gone through by a range over a function. -/
import Derived.RangeFuncNested
import Derived.RangeFuncBound
import Derived.RangeFuncCalls
import Derived.RangeFuncLeaves
import Derived.Shelf.Abstract
import Derived.Shelf.RegionOpen
import Derived.WalkKit
import Derived.OwnWalkIn
import Derived.TacticsInMore
import Derived.LoopNIn
import Derived.LoopIn
import Derived.Test.YtkbdpdcandpfdaaW3
import Derived.Test.YtkbdpdcandpfdaaW8
namespace Go.Proofs.Ytkbdpdcandpfdaa
open Go.RowKit Go.Shelf
set_option linter.unusedVariables false
set_option linter.unusedSimpArgs false
attribute [local go_sem] Oper.semAt_some

theorem Keeps.grown {a b : World} (h : Keeps a b) : a.grownBy b none := ⟨Below.os h, Below.tape h, Below.output h, h.size, fun k hk _ => h.block k hk⟩
/-- the blocks below n₀, and one more, lie as they lay -/
structure KeepsOn (n₀ B : Nat) (w w' : World) : Prop where
  os : w'.os = w.os
  tape : w'.tape = w.tape
  output : w'.output = w.output
  size : w.heap.size ≤ w'.heap.size
  block : ∀ k, k < n₀ ∨ k = B → k < w.heap.size → w'.heap[k]? = w.heap[k]?
theorem KeepsOn.refl (n₀ B : Nat) (w : World) : KeepsOn n₀ B w w := ⟨rfl, rfl, rfl, Nat.le_refl _, fun _ _ _ => rfl⟩
theorem KeepsOn.trans {n₀ B : Nat} {a b c : World} (h : KeepsOn n₀ B a b) (k : KeepsOn n₀ B b c) : KeepsOn n₀ B a c :=
  ⟨k.os.trans h.os, k.tape.trans h.tape, k.output.trans h.output, Nat.le_trans h.size k.size, fun i hi hl => (k.block i hi (Nat.lt_of_lt_of_le hl h.size)).trans (h.block i hi hl)⟩
theorem Keeps.on {a b : World} (h : Keeps a b) (n₀ B : Nat) : KeepsOn n₀ B a b := ⟨Below.os h, Below.tape h, Below.output h, h.size, fun k _ hk => h.block k hk⟩
theorem KeepsOn.keeps {B : Nat} {w0 a b : World} (h : Keeps w0 a) (k : KeepsOn w0.heap.size B a b) : Keeps w0 b :=
  ⟨k.os.trans (Below.os h), k.tape.trans (Below.tape h), k.output.trans (Below.output h), Nat.le_trans h.size k.size, fun i hi => (k.block i (.inl hi) (Nat.lt_of_lt_of_le hi h.size)).trans (h.block i hi)⟩
theorem KeepsOn.box {n₀ B t : Nat} {c : Array Value} {a b : World} (k : KeepsOn n₀ B a b) (h : Box a B t c) : Box b B t c := (k.block B (.inr rfl) h.lt).trans h
theorem Below.on {n n₀ B : Nat} {a b : World} (h : Below n a b) (hn : n₀ ≤ n) (hB : B < n) (hs : a.heap.size ≤ b.heap.size) : KeepsOn n₀ B a b :=
  ⟨Below.os h, Below.tape h, Below.output h, hs, fun k hk _ => Below.block h k (by omega)⟩

/-- the bits of bits; bits that may not be: none -/
def listOf (x : RB) : List Bool := if chk x.n x.l then x.bits else []
/-- the first k bits, each with its place -/
def pairs (bs : List Bool) (k : Nat) : List (Nat × Bool) := (List.range k).map fun j => (j, bs[j]?.getD false)
theorem pairs_succ (bs : List Bool) (k : Nat) : pairs bs (k + 1) = pairs bs k ++ [(k, bs[k]?.getD false)] := by simp [pairs, List.range_succ]
theorem pairs_length (bs : List Bool) (k : Nat) : (pairs bs k).length = k := by simp [pairs]
theorem pairs_zero (bs : List Bool) : pairs bs 0 = [] := rfl

set_option maxRecDepth 100000 in
set_option maxHeartbeats 2000000 in
/-- the closure that All hands back, of bits that may be -/
theorem all1_in (n : Nat) (hn : 1 ≤ n) (l B : Nat) (x : RB) (bs : List Bool) (w0 W : World) (hx : x.Is w0 bs) (hkW : Keeps w0 W) (hB : Box W B 32 #[.int .i64 x.n, .slice x.a x.len x.cap])
    (J Jx : List (Nat × Bool) → World → Prop) (hJ : AbidesFrom W.heap.size J)
    (hY : ∀ pre p W1, J pre W1 → pre.length < bs.length → YieldAt Fence.wide (n - 1) Try.prog l #[.int .i64 (p.1 : Int), .bool p.2] W1 fun e W' =>
      (e = .returned (.bool true) ∧ J (pre ++ [p]) W' ∧ KeepsOn w0.heap.size B W1 W') ∨ (e = .returned (.bool false) ∧ Jx (pre ++ [p]) W')) (h0 : J [] W) :
    CallsIn Fence.wide n Try.prog 64 #[.func (.yield l) #[] #[], .pointer (some ⟨B, 0, none⟩)] W fun e W' => (∃ v, e = .returned v) ∧
      ((∃ ys, ys = pairs bs bs.length ∧ J ys W') ∨ (∃ pre, (∃ k, k ≤ bs.length ∧ pre = pairs bs k) ∧ Jx pre W')) := by
  have hmost := hx.most
  have HC := Lib.hid hx.chk
  have HX := Lib.hid hx
  have HJ := Lib.hid hJ
  obtain ⟨a, cap, rfl⟩ := hx.shape
  clear hx hJ
  have hb0 := hB.cell 0 _ rfl
  have hb1 := hB.cell 1 _ rfl
  have HB := Lib.hid hB
  have HK := Lib.hid hkW
  clear hB hkW
  refine callsIn_of_wp Try.func64 rfl trivial ?_ rfl
  simp only [Try.ntmps64, List.size_toArray, List.length_cons, List.length_nil, Nat.reduceAdd, Nat.reduceSub, Array.replicate_succ, Array.replicate_zero, List.push_toArray, List.append_toArray, List.nil_append, List.cons_append]
  gi_wp2_with fail
  refine ⟨trivial, ?_⟩
  with_reducible refine (callsIn_wide.2 (check_yes ⟨bs.length, a, (bs.length + 7) / 8, cap, pack bs⟩ _ (by exact HX.out.isIn.keeps HK.out) HC.out)).mono ?_
  rintro e w1 ⟨rfl, hk1⟩
  have hbx := HB.out.keeps hk1
  have hc0 := hbx.cell 0 _ rfl
  have hc1 := hbx.cell 1 _ rfl
  have HB1 := Lib.hid hbx
  have HKW := Lib.hid hk1
  have HK1 := Lib.hid (HK.out.trans hk1)
  have HJ1 := Lib.hid (HJ.out [] W w1 none h0 hk1.grown (by simp))
  clear hk1 hbx hb0 hb1 h0
  gi_wp2_with fail
  gi_loopw [9] (fun i wr => ∃ k : Nat, k ≤ bs.length ∧ i = .int .i64 k ∧ Hid (J (pairs bs k) wr) ∧ Hid (KeepsOn w0.heap.size B w1 wr)) (fun i _ => bs.length - (intOf i).toNat)
  case atStart => exact ⟨0, Nat.zero_le _, rfl, HJ1, KeepsOn.refl _ _ _⟩
  case round =>
    clear hc0 hc1
    obtain ⟨k, hk, rfl, HJk, HKk⟩ := hrel
    have hbx := HKk.out.box HB1.out
    have hc0 := hbx.cell 0 _ rfl
    have hc1 := hbx.cell 1 _ rfl
    have HXk := Lib.hid (HX.out.keeps (HKk.out.keeps HK1.out))
    have hsz := HKk.out.size
    clear hbx
    by_cases hlt : k < bs.length
    · obtain ⟨b, hb⟩ : ∃ b, bs[k]?.getD false = b := ⟨_, rfl⟩
      have HBB := Lib.hid hb
      clear hb
      gi_wp2_with fail
      refine ⟨trivial, ?_⟩
      with_reducible refine (callsIn_wide.2 (has_ok ⟨bs.length, a, (bs.length + 7) / 8, cap, pack bs⟩ bs _ k b _ rfl (by rw [List.getD_eq_getElem?_getD]; exact HBB.out) (by exact HXk.out) hlt)).mono ?_
      rintro e w2 ⟨rfl, hk2⟩
      obtain ⟨fn, tmps, assign, body, hy, hR⟩ := hY (pairs bs k) (k, b) w2 (HJ.out _ wr w2 none HJk.out hk2.grown (by simp)) (by rw [pairs_length]; exact hlt)
      dsimp only at hy
      gi_wp2_with fail
      have HK2 := Lib.hid hk2
      have HPS := Lib.hid (pairs_succ bs k)
      clear hk2
      refine hR.mono ?_
      rintro e w3 (⟨rfl, hJ3, hk3⟩ | ⟨rfl, hJx3⟩)
      · have HJ3 := Lib.hid hJ3
        have HK3 := Lib.hid ((HKk.out.trans (HK2.out.on _ _)).trans hk3)
        clear hJ3 hk3 hy hR
        gi_wp2
        go_roundw
        case rel => exact ⟨k + 1, by omega, by go_num, by rw [HPS.out, HBB.out]; exact HJ3, HK3⟩
        case measure => simp [intOf]; omega
      · have HJx3 := Lib.hid hJx3
        clear hJx3 hy hR
        gi_wp2
        refine bodyPost_ret (results_none rfl _ _ _) rfl ?_
        exact ⟨⟨_, rfl⟩, .inr ⟨_, ⟨k + 1, by omega, rfl⟩, by rw [HPS.out, HBB.out]; exact HJx3.out⟩⟩
    · obtain rfl : k = bs.length := by omega
      gi_wp2
      go_end0
      exact ⟨⟨_, rfl⟩, .inl ⟨_, rfl, HJk.out⟩⟩

set_option maxRecDepth 100000 in
set_option maxHeartbeats 1000000 in
/-- .. of bits that may not be: no round -/
theorem all1_bad (n : Nat) (hn : 1 ≤ n) (l B : Nat) (x : RB) (w0 W : World) (hx : x.In w0) (hc : chk x.n x.l = false) (hkW : Keeps w0 W) (hB : Box W B 32 #[.int .i64 x.n, .slice x.a x.len x.cap])
    (J : List (Nat × Bool) → World → Prop) (hJ : AbidesFrom W.heap.size J) (h0 : J [] W) :
    CallsIn Fence.wide n Try.prog 64 #[.func (.yield l) #[] #[], .pointer (some ⟨B, 0, none⟩)] W fun e W' => (∃ v, e = .returned v) ∧ J [] W' := by
  have HC := Lib.hid hc
  have HX := Lib.hid hx
  have HJ := Lib.hid hJ
  clear hx hJ hc
  obtain ⟨m, a, len, cap, bl⟩ := x
  have hb0 := hB.cell 0 _ rfl
  have hb1 := hB.cell 1 _ rfl
  have HB := Lib.hid hB
  have HK := Lib.hid hkW
  clear hB hkW
  refine callsIn_of_wp Try.func64 rfl trivial ?_ rfl
  simp only [Try.ntmps64, List.size_toArray, List.length_cons, List.length_nil, Nat.reduceAdd, Nat.reduceSub, Array.replicate_succ, Array.replicate_zero, List.push_toArray, List.append_toArray, List.nil_append, List.cons_append]
  gi_wp2_with fail
  refine ⟨trivial, ?_⟩
  with_reducible refine (callsIn_wide.2 (check_no ⟨m, a, len, cap, bl⟩ _ (by exact HX.out.keeps HK.out) HC.out)).mono ?_
  rintro e w1 ⟨rfl, hk1⟩
  have HJ1 := Lib.hid (HJ.out [] W w1 none h0 hk1.grown (by simp))
  clear hk1 hb0 hb1 h0
  gi_wp2
  refine bodyPost_ret (results_none rfl _ _ _) rfl ?_
  exact ⟨⟨_, rfl⟩, HJ1.out⟩

theorem SeqStopsK.weaken {α : Type} {F : Fence} {n : Nat} {P : Program} {g : Nat} {lb : Array Value} {encs : α → Array Value} {Kp Kp' : World → World → Prop} {S Sp : List α → Prop} {N : Nat} {w : World}
    (h : SeqStopsK F n P g lb encs Kp S Sp N w) (hk : ∀ a b, Kp' a b → Kp a b) : SeqStopsK F n P g lb encs Kp' S Sp N w :=
  fun l J Jx W hW hJ hJx hY h0 => h l J Jx W hW hJ hJx (fun pre x W1 h1 h2 => by
    obtain ⟨fn, tmps, asg, bo, hy, hR⟩ := hY pre x W1 h1 h2
    refine ⟨fn, tmps, asg, bo, hy, hR.mono ?_⟩
    rintro e W' (⟨h3, h4, h5⟩ | h3)
    · exact .inl ⟨h3, h4, hk _ _ h5⟩
    · exact .inr h3) h0

/-- the value that All hands back: all bits, or a part of them -/
theorem all_stops (n : Nat) (hn : 1 ≤ n) (B : Nat) (x : RB) (w0 w : World) (hx : x.In w0) (hk : Keeps w0 w) (hB : Box w B 32 #[.int .i64 x.n, .slice x.a x.len x.cap]) :
    SeqStopsK Fence.wide n Try.prog 64 #[.pointer (some ⟨B, 0, none⟩)] (fun p : Nat × Bool => #[Value.int .i64 (p.1 : Int), .bool p.2]) (KeepsOn w0.heap.size B) (fun ys => ys = pairs (listOf x) (listOf x).length)
      (fun pre => ∃ k, k ≤ (listOf x).length ∧ pre = pairs (listOf x) k) (listOf x).length w := fun l J Jx W hW hJ hJx hY h0 => by
  have hkW : Keeps w W := hW
  unfold listOf at hY ⊢
  cases hc : chk x.n x.l
  · exact (all1_bad n hn l B x w0 W hx hc (hk.trans hkW) (hB.keeps hkW) J hJ h0).mono fun e W' ⟨he, hj⟩ => ⟨he, .inl ⟨[], by simp [pairs], hj⟩⟩
  · rw [hc, if_pos rfl] at hY
    exact all1_in n hn l B x x.bits w0 W (hx.is hc) (hk.trans hkW) (hB.keeps hkW) J Jx hJ hY h0

set_option maxHeartbeats 1000000 in
theorem all_any (x : RB) (w : World) : Calls Try.prog 36 #[x.val] w fun e w' =>
    e = .returned (.func (.func 64) #[] #[.pointer (some ⟨w.heap.size, 0, none⟩)]) ∧ w' = w.alloc (.cells #[.int .i64 x.n, .slice x.a x.len x.cap] 32) := by
  obtain ⟨n, a, len, cap, l⟩ := x
  go_enter Try.func36, Try.ntmps36
  go_wp2
  go_ret
  exact ⟨rfl, rfl⟩
end Go.Proofs.Ytkbdpdcandpfdaa
