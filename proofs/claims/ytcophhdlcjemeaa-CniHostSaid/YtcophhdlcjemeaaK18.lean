/- cni.Fresh: the slots whose message is not old, gone through by a range over a function. -/
import Derived.RangeFuncNested
import Derived.RangeFuncBound
import Derived.RangeFuncCalls
import Derived.RangeFuncLeaves
import Derived.Shelf.Abstract
import Derived.Shelf.RegionOpen
import Derived.WalkKit
import Derived.OwnWalkIn
import Derived.TacticsInMore
import Derived.LoopNIn
import Derived.LoopIn
import Derived.Test.YtcophhdlcjemeaaK2
namespace Go.Proofs.Ytcophhdlcjemeaa
open Go.RowKit Go.Shelf
set_option linter.unusedVariables false
set_option linter.unusedSimpArgs false
attribute [local go_sem] Oper.semAt_some

theorem Keeps.grown {a b : World} (h : Keeps a b) : a.grownBy b none := ⟨Below.os h, Below.tape h, Below.output h, h.size, fun k hk _ => h.block k hk⟩
/-- the blocks of S lie as they lay -/
structure KeepsS (S : Nat → Prop) (w w' : World) : Prop where
  os : w'.os = w.os
  tape : w'.tape = w.tape
  output : w'.output = w.output
  size : w.heap.size ≤ w'.heap.size
  block : ∀ k, S k → k < w.heap.size → w'.heap[k]? = w.heap[k]?
theorem KeepsS.refl (S : Nat → Prop) (w : World) : KeepsS S w w := ⟨rfl, rfl, rfl, Nat.le_refl _, fun _ _ _ => rfl⟩
theorem KeepsS.trans {S : Nat → Prop} {a b c : World} (h : KeepsS S a b) (k : KeepsS S b c) : KeepsS S a c :=
  ⟨k.os.trans h.os, k.tape.trans h.tape, k.output.trans h.output, Nat.le_trans h.size k.size, fun i hi hl => (k.block i hi (Nat.lt_of_lt_of_le hl h.size)).trans (h.block i hi hl)⟩
theorem Keeps.onS {a b : World} (h : Keeps a b) (S : Nat → Prop) : KeepsS S a b := ⟨Below.os h, Below.tape h, Below.output h, h.size, fun k _ hk => h.block k hk⟩
theorem KeepsS.keeps {S : Nat → Prop} {w0 a b : World} (h : Keeps w0 a) (k : KeepsS S a b) (hS : ∀ k, k < w0.heap.size → S k) : Keeps w0 b :=
  ⟨k.os.trans (Below.os h), k.tape.trans (Below.tape h), k.output.trans (Below.output h), Nat.le_trans h.size k.size, fun i hi => (k.block i (hS i hi) (Nat.lt_of_lt_of_le hi h.size)).trans (h.block i hi)⟩
theorem KeepsS.box {S : Nat → Prop} {B t : Nat} {c : Array Value} {a b : World} (k : KeepsS S a b) (h : Box a B t c) (hB : S B) : Box b B t c := (k.block B hB h.lt).trans h
theorem Below.onS {n : Nat} {S : Nat → Prop} {a b : World} (h : Below n a b) (hn : ∀ k, S k → k < n) (hs : a.heap.size ≤ b.heap.size) : KeepsS S a b :=
  ⟨Below.os h, Below.tape h, Below.output h, hs, fun k hk _ => Below.block h k (hn k hk)⟩
/-- the blocks below n₀, and the two boxes of the closure -/
def onF (n₀ B : Nat) (k : Nat) : Prop := k < n₀ ∨ k = B ∨ k = B + 1

def freshAt (age : Int) (m : PMsg) : Bool := decide (m.2 ≤ age) && decide (m.2 < 255)
/-- the slots among the first k whose message is not old -/
def freshTo (ms : List PMsg) (age : Int) (k : Nat) : List Nat := (List.range k).filter fun j => match ms[j]? with | some m => freshAt age m | none => false
theorem freshTo_zero (ms : List PMsg) (age : Int) : freshTo ms age 0 = [] := rfl
theorem freshTo_yes {ms : List PMsg} {age : Int} {k : Nat} {m : PMsg} (hm : ms[k]? = some m) (h : freshAt age m = true) : freshTo ms age (k + 1) = freshTo ms age k ++ [k] := by simp [freshTo, List.range_succ, hm, h]
theorem freshTo_no {ms : List PMsg} {age : Int} {k : Nat} {m : PMsg} (hm : ms[k]? = some m) (h : freshAt age m = false) : freshTo ms age (k + 1) = freshTo ms age k := by simp [freshTo, List.range_succ, hm, h]
theorem freshTo_le (ms : List PMsg) (age : Int) (k : Nat) : (freshTo ms age k).length ≤ k := by
  have := List.length_filter_le (fun j => match ms[j]? with | some m => freshAt age m | none => false) (List.range k)
  rwa [List.length_range] at this
theorem freshTo_succ (ms : List PMsg) (age : Int) (k : Nat) : freshTo ms age k <+: freshTo ms age (k + 1) := by
  unfold freshTo
  rw [List.range_succ, List.filter_append]
  exact List.prefix_append _ _
theorem freshTo_prefix (ms : List PMsg) (age : Int) {k n : Nat} (h : k ≤ n) : freshTo ms age k <+: freshTo ms age n := by
  obtain ⟨d, rfl⟩ := Nat.exists_eq_add_of_le h
  induction d with
  | zero => exact List.prefix_refl _
  | succ d ih => exact List.IsPrefix.trans (ih (by omega)) (freshTo_succ _ _ _)
theorem freshTo_lt {ms : List PMsg} {age : Int} {k : Nat} {m : PMsg} (hm : ms[k]? = some m) (h : freshAt age m = true) (hk : k < ms.length) : (freshTo ms age k).length < (freshTo ms age ms.length).length := by
  have h1 := (freshTo_prefix ms age (show k + 1 ≤ ms.length by omega)).length_le
  rw [freshTo_yes hm h] at h1
  simp at h1
  omega
def freshP (p : PCni) (age : Int) : List Nat := cond (cniOk p) (freshTo p.ms age p.ms.length) []
set_option maxRecDepth 100000 in
set_option maxHeartbeats 2000000 in
/-- the closure that Fresh hands back -/
theorem fresh1_in (n : Nat) (hn : 1 ≤ n) (l B : Nat) (c : RCni) (age : Int) (w0 W : World) (hc : c.In w0) (hkW : Keeps w0 W) (hB : Box W B 39 #[.int .i64 c.id, .slice c.o.a c.o.len c.o.cap, .slice c.ia c.n c.cap, .int .i64 c.life, .int .i64 c.want]) (hA : Box W (B + 1) 3 #[.int .i64 age])
    (J Jx : List Nat → World → Prop) (hJ : AbidesFrom W.heap.size J)
    (hY : ∀ (pre : List Nat) (p : Nat) W1, J pre W1 → pre.length < (freshP c.p age).length → YieldAt Fence.wide (n - 1) Try.prog l #[.int .i64 (p : Int)] W1 fun e W' =>
      (e = .returned (.bool true) ∧ J (pre ++ [p]) W' ∧ KeepsS (onF w0.heap.size B) W1 W') ∨ (e = .returned (.bool false) ∧ Jx (pre ++ [p]) W')) (h0 : J [] W) :
    CallsIn Fence.wide n Try.prog 65 #[.func (.yield l) #[] #[], .pointer (some ⟨B, 0, none⟩), .pointer (some ⟨B + 1, 0, none⟩)] W fun e W' => (∃ v, e = .returned v) ∧
      ((∃ ys, ys = freshP c.p age ∧ J ys W') ∨ (∃ pre, pre <+: freshP c.p age ∧ Jx pre W')) := by
  have HJ := Lib.hid hJ
  have HB := Lib.hid hB
  have HA := Lib.hid hA
  have HK := Lib.hid hkW
  have HC := Lib.hid hc
  have HJ0 := Lib.hid h0
  have HCH := Lib.hid (ccheck_any c)
  have HF : Hid (freshP c.p age = cond (cniOk c.p) (freshTo c.p.ms age c.p.ms.length) []) := Lib.hid rfl
  have HPM : Hid (c.p.ms = c.ms.map RMsg.p) := Lib.hid rfl
  have hcn := hc.m.len
  have hcap := hc.m.hcap
  have hmax := hc.m.hmax
  clear hB hA hkW hJ h0 hc
  obtain ⟨O, hO⟩ : ∃ O, O = cniOk c.p := ⟨_, rfl⟩
  obtain ⟨F, hF⟩ : ∃ F, F = freshP c.p age := ⟨_, rfl⟩
  obtain ⟨M, hM⟩ : ∃ M, M = c.p.ms := ⟨_, rfl⟩
  rw [← hO] at HCH
  rw [← hO, ← hF, ← hM] at HF
  rw [← hM] at HPM
  rw [← hF] at hY ⊢
  clear hO hF hM
  obtain ⟨id, ⟨oa, olen, ocap, ol⟩, ia, n', cap, ms, life, want⟩ := c
  simp only at hcn hcap hmax HPM HB
  have HN := Lib.hid hcn
  clear hcn
  have HS0 : Hid (∀ k, k < w0.heap.size → onF w0.heap.size B k) := Lib.hid (fun k hk => .inl hk)
  have HSB : Hid (onF w0.heap.size B B ∧ onF w0.heap.size B (B + 1)) := Lib.hid ⟨.inr (.inl rfl), .inr (.inr rfl)⟩
  have b0 := HB.out.cell 0 _ rfl
  have b1 := HB.out.cell 1 _ rfl
  have b2 := HB.out.cell 2 _ rfl
  have b3 := HB.out.cell 3 _ rfl
  have b4 := HB.out.cell 4 _ rfl
  have bl := HB.out.lt
  have ha0 := HA.out.cell 0 _ rfl
  refine callsIn_of_wp Try.func65 rfl trivial ?_ rfl
  simp only [Try.ntmps65, List.size_toArray, List.length_cons, List.length_nil, Nat.reduceAdd, Nat.reduceSub, Array.replicate_succ, Array.replicate_zero, List.push_toArray, List.append_toArray, List.nil_append, List.cons_append]
  gi_wp2_with fail
  refine ⟨trivial, ?_⟩
  with_reducible refine (callsIn_wide.2 (HCH.out _ (by exact HC.out.keeps HK.out))).mono ?_
  rintro e w1 ⟨rfl, hk1⟩
  have HK1 := Lib.hid (HK.out.trans hk1)
  have HJ1 := Lib.hid (HJ.out [] W w1 none HJ0.out hk1.grown (by simp))
  have HB1 := Lib.hid (HB.out.keeps hk1)
  have HA1 := Lib.hid (HA.out.keeps hk1)
  have hs1 := hk1.size
  clear hk1 HJ0 b0 b1 b2 b3 b4 bl ha0 HB HA HK
  have b0 := HB1.out.cell 0 _ rfl
  have b1 := HB1.out.cell 1 _ rfl
  have b2 := HB1.out.cell 2 _ rfl
  have b3 := HB1.out.cell 3 _ rfl
  have b4 := HB1.out.cell 4 _ rfl
  have bl := HB1.out.lt
  have ha0 := HA1.out.cell 0 _ rfl
  cases O
  · simp only [cond_false] at HF ⊢
    gi_wp2_with fail
    refine bodyPost_ret (results_none rfl _ _ _) rfl ?_
    exact ⟨⟨_, rfl⟩, .inl ⟨_, HF.out.symm, HJ1.out⟩⟩
  simp only [cond_true] at HF ⊢
  gi_wp2_with fail
  gi_loopw [12] (fun i wr => ∃ k : Nat, k ≤ n' ∧ i = .int .i64 k ∧ Hid (J (freshTo M age k) wr) ∧ Hid (KeepsS (onF w0.heap.size B) w1 wr)) (fun i _ => n' - (intOf i).toNat)
  case atStart => exact ⟨0, Nat.zero_le _, rfl, HJ1, KeepsS.refl _ _⟩
  case round =>
    obtain ⟨k, hk, rfl, HJk, HKk⟩ := hrel
    have HKw := Lib.hid (HKk.out.keeps HK1.out HS0.out)
    have HBk := Lib.hid (HKk.out.box HB1.out HSB.out.1)
    have HAk := Lib.hid (HKk.out.box HA1.out HSB.out.2)
    have hsz := HKk.out.size
    clear b0 b1 b2 b3 b4 bl ha0
    have b0 := HBk.out.cell 0 _ rfl
    have b1 := HBk.out.cell 1 _ rfl
    have b2 := HBk.out.cell 2 _ rfl
    have b3 := HBk.out.cell 3 _ rfl
    have b4 := HBk.out.cell 4 _ rfl
    have bl := HBk.out.lt
    have ha0 := HAk.out.cell 0 _ rfl
    have hal := HAk.out.lt
    by_cases hlt : k < n'
    · have hk' : k < ms.length := by rw [HN.out]; exact hlt
      obtain ⟨sb, so, hab, hcell⟩ := HC.out.m.addr (show 0 < ms.length by omega)
      simp only at hab
      subst hab
      obtain ⟨hc0, hc1⟩ := hcell k hk'
      replace hc0 := HKw.out.later hc0
      replace hc1 := HKw.out.later hc1
      have HMK : Hid (M[k]? = some ms[k].p) := Lib.hid (by rw [HPM.out, List.getElem?_map, List.getElem?_eq_getElem hk']; rfl)
      have HML : Hid (k < M.length) := Lib.hid (by rw [HPM.out, List.length_map]; exact hk')
      clear hcell
      obtain ⟨x, hx⟩ : ∃ x, x = ms[k] := ⟨_, rfl⟩
      rw [← hx] at hc0 hc1 HMK
      clear hx hk'
      obtain ⟨⟨da, dlen, dcap, dl⟩, ag⟩ := x
      simp only at hc0 hc1
      have HFA : Hid (freshAt age (RMsg.p ⟨⟨da, dlen, dcap, dl⟩, ag⟩) = (decide (ag ≤ age) && decide (ag < 255))) := Lib.hid rfl
      have HJA := Lib.hid (HJ.out _ wr (wr.alloc (.cells #[.slice da dlen dcap, .int .i64 ag] 53)) none HJk.out (((Keeps.refl wr).alloc (.cells #[.slice da dlen dcap, .int .i64 ag] 53)).grown) (by simp))
      have HKA := Lib.hid (HKk.out.trans (((Keeps.refl wr).alloc (.cells #[.slice da dlen dcap, .int .i64 ag] 53)).onS _))
      by_cases t1 : ag ≤ age
      case neg =>
        have d1 : decide (ag ≤ age) = false := decide_eq_false t1
        rw [d1] at HFA
        have HS := Lib.hid (freshTo_no HMK.out HFA.out)
        gi_wp2_with fail
        (try refine ⟨fun f h => (by cases h), ?_⟩)
        gi_wp2_with fail
        go_roundw
        case rel => exact ⟨k + 1, by omega, by go_num, by rw [HS.out]; exact HJA, HKA⟩
        case measure => simp [intOf]; omega
      have d1 : decide (ag ≤ age) = true := decide_eq_true t1
      by_cases t2 : ag < 255
      case neg =>
        have d2 : decide (ag < 255) = false := decide_eq_false t2
        rw [d1, d2] at HFA
        have HS := Lib.hid (freshTo_no HMK.out HFA.out)
        gi_wp2_with fail
        (try refine ⟨fun f h => (by cases h), ?_⟩)
        gi_wp2_with fail
        go_roundw
        case rel => exact ⟨k + 1, by omega, by go_num, by rw [HS.out]; exact HJA, HKA⟩
        case measure => simp [intOf]; omega
      have d2 : decide (ag < 255) = true := decide_eq_true t2
      rw [d1, d2] at HFA
      have HS := Lib.hid (freshTo_yes HMK.out HFA.out)
      have HLT := Lib.hid (freshTo_lt HMK.out HFA.out HML.out)
      obtain ⟨fn, tmps, assign, body, hy, hR⟩ := hY (freshTo M age k) k _ HJA.out (by rw [HF.out]; exact HLT.out)
      try dsimp only at hy
      gi_wp2_with fail
      refine hR.mono ?_
      rintro e w3 (⟨rfl, hJ3, hk3⟩ | ⟨rfl, hJx3⟩)
      · have HJ3 := Lib.hid hJ3
        have HK3 := Lib.hid (HKA.out.trans hk3)
        clear hJ3 hk3 hy hR
        gi_wp2
        go_roundw
        case rel => exact ⟨k + 1, by omega, by go_num, by rw [HS.out]; exact HJ3, HK3⟩
        case measure => simp [intOf]; omega
      · have HJx3 := Lib.hid hJx3
        clear hJx3 hy hR
        gi_wp2
        refine bodyPost_ret (results_none rfl _ _ _) rfl ?_
        exact ⟨⟨_, rfl⟩, .inr ⟨_, (by rw [HF.out]; exact freshTo_prefix M age HML.out), by rw [HS.out]; exact HJx3.out⟩⟩
    · obtain rfl : k = n' := by omega
      have HFE : Hid (freshTo M age k = F) := Lib.hid (by rw [HF.out, HPM.out, List.length_map, HN.out])
      gi_wp2
      go_end0
      exact ⟨⟨_, rfl⟩, .inl ⟨_, HFE.out, HJk.out⟩⟩
/-- the value that Fresh hands back -/
theorem fresh_stops (n : Nat) (hn : 1 ≤ n) (B : Nat) (c : RCni) (age : Int) (w0 w : World) (hc : c.In w0) (hk : Keeps w0 w) (hB : Box w B 39 #[.int .i64 c.id, .slice c.o.a c.o.len c.o.cap, .slice c.ia c.n c.cap, .int .i64 c.life, .int .i64 c.want]) (hA : Box w (B + 1) 3 #[.int .i64 age]) :
    SeqStopsK Fence.wide n Try.prog 65 #[.pointer (some ⟨B, 0, none⟩), .pointer (some ⟨B + 1, 0, none⟩)] (fun p : Nat => #[Value.int .i64 (p : Int)]) (KeepsS (onF w0.heap.size B)) (fun ys => ys = freshP c.p age)
      (fun pre => pre <+: freshP c.p age) (freshP c.p age).length w := fun l J Jx W hW hJ hJx hY h0 => by
  have hkW : Keeps w W := hW
  exact fresh1_in n hn l B c age w0 W hc (hk.trans hkW) (hB.keeps hkW) (hA.keeps hkW) J Jx hJ hY h0
set_option maxHeartbeats 1000000 in
theorem freshf_any (c : RCni) (age : Int) (w : World) : Calls Try.prog 36 #[c.val, .int .i64 age] w fun e w' =>
    e = .returned (.func (.func 65) #[] #[.pointer (some ⟨w.heap.size, 0, none⟩), .pointer (some ⟨w.heap.size + 1, 0, none⟩)]) ∧
      w' = (w.alloc (.cells #[.int .i64 c.id, .slice c.o.a c.o.len c.o.cap, .slice c.ia c.n c.cap, .int .i64 c.life, .int .i64 c.want] 39)).alloc (.cells #[.int .i64 age] 3) := by
  obtain ⟨id, ⟨oa, olen, ocap, ol⟩, ia, n, cap, ms, life, want⟩ := c
  show Calls Try.prog 36 #[.agg #[.int .i64 id, .slice oa olen ocap, .slice ia n cap, .int .i64 life, .int .i64 want], .int .i64 age] w _
  go_enter Try.func36, Try.ntmps36
  go_wp2
  go_ret
  exact ⟨rfl, rfl⟩
end Go.Proofs.Ytcophhdlcjemeaa
