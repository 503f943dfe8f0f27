/- The walks of layer 12, 4: an interface at first. -/
import Derived.Test.YtcophhdlcjemeaaK3
import Derived.Deep.RegionLaw
namespace Go.Proofs.Ytcophhdlcjemeaa
open Go.RowKit
set_option linter.unusedVariables false
set_option linter.unusedSimpArgs false
section
variable {P : Program} {w : World}
theorem run_copy_rowsAt (dT sT ty elem : TypeId) (g off dLen dCap : Nat) (a : Addr) (sLen sCap size : Nat) (cur : Array Value) (t : TypeId) (cs : List Value)
    (hu : P.underlying dT = some (.slice elem)) (hs : (P.info? elem).map (·.size) = some size)
    (hg : w.heap[g]? = some (.cells cur t (0, 0))) (hn : cs.length = Nat.min sLen dLen * size)
    (hsrc : ∀ j v, cs[j]? = some v → w.cell? (a.add j) = some v) (hfit : off + cs.length ≤ cur.size) (h1 : ∀ v ∈ cs, v.oneCell' = true) :
    (Builtin.copy_ #[dT, sT] ty #[.slice (some ⟨g, off, none⟩) dLen dCap, .slice (some a) sLen sCap]).run P w =
      .ok (goInt (Nat.min sLen dLen : Nat)) (w.setRow g (splice cur.toList off cs).toArray) := by
  have hl := run_loadCells_list (P := P) w a cs hsrc
  have hst := run_storeCells_at P g off t cs 0 cur w hg (by simpa using hfit) h1
  cases hq : P.info? elem with
  | none => simp [hq] at hs
  | some i =>
    have hi : i.size = size := by simpa [hq] using hs
    rw [hn] at hl
    simp [Builtin.copy_, run_underlying hu, Builtin.lenOf, Builtin.firstCells, sizeOf, typeInfo, hq, hi, hl, hst, splice]
/-- 'copy(l[i:], m)' -/
theorem wpList_copy_rowsAt {ops : Array Oper} {rest : List Oper} {o : Oper} {a : Act} {Q : Exit → Act → World → Prop} (hgd : o.guard = none) (d s : Operand) (dT sT : TypeId)
    (ho : o.op = .call { callee := .builtin .copy, args := #[d, s], argTypes := #[dT, sT] }) (elem size : Nat) (hu : P.underlying dT = some (.slice elem)) (hsz : (P.info? elem).map (·.size) = some size)
    (g off dLen dCap : Nat) (ad : Addr) (sLen sCap : Nat) (hd : a.eval d = .slice (some ⟨g, off, none⟩) dLen dCap) (hs : a.eval s = .slice (some ad) sLen sCap)
    (cur : List Value) (t : TypeId) (hg : Box w g t cur.toArray) (cs : List Value) (m : Nat) (hm : Nat.min sLen dLen = m) (hn : cs.length = m * size)
    (hsrc : ∀ j v, cs[j]? = some v → w.cell? (ad.add j) = some v) (hfit : off + cs.length ≤ cur.length) (h1 : ∀ v ∈ cs, v.oneCell' = true)
    (h : ∀ w', Hid (Box w' g t (splice cur off cs).toArray) → KeepsBut g w w' → wpList P ops Q rest (a.put o.dst (goInt (m : Nat))) w') : wpList P ops Q (o :: rest) a w := by
  refine wpList_plain hgd fun K hK => ?_
  have hrun := run_copy_rowsAt (P := P) (w := w) dT sT o.type elem g off dLen dCap ad sLen sCap size cur.toArray t cs hu hsz hg (by rw [hm]; exact hn) hsrc (by simpa using hfit) h1
  rw [hm] at hrun
  unfold Oper.wp
  simp [execOp, ho, resolve, invoke, builtin, hd, hs, hrun, Result.andThen]
  exact hK _ _ (h _ (Lib.hid (by unfold Box; rw [setRow_heap w g _ _ t _ hg])) ⟨rfl, rfl, rfl, by simp [World.setRow], fun i _ hi => setRow_other w g i _ hi⟩)
/-- 'copy(l[i:], m)' in a region that draws its order -/
theorem step_copy_rows {ops : Array Oper} {o : Oper} {a : Act} {K : Act → World → Prop} {Q : Exit → Act → World → Prop} {E : Prop} (hgd : o.guard = none) (d s : Operand) (dT sT : TypeId)
    (ho : o.op = .call { callee := .builtin .copy, args := #[d, s], argTypes := #[dT, sT] }) (elem size : Nat) (hu : P.underlying dT = some (.slice elem)) (hsz : (P.info? elem).map (·.size) = some size)
    (g off dLen dCap : Nat) (ad : Addr) (sLen sCap : Nat) (hd : a.eval d = .slice (some ⟨g, off, none⟩) dLen dCap) (hs : a.eval s = .slice (some ad) sLen sCap)
    (cur : List Value) (t : TypeId) (hg : Box w g t cur.toArray) (cs : List Value) (m : Nat) (hm : Nat.min sLen dLen = m) (hn : cs.length = m * size)
    (hsrc : ∀ j v, cs[j]? = some v → w.cell? (ad.add j) = some v) (hfit : off + cs.length ≤ cur.length) (h1 : ∀ v ∈ cs, v.oneCell' = true)
    (h : ∀ w', Hid (Box w' g t (splice cur off cs).toArray) → KeepsBut g w w' → K (a.put o.dst (goInt (m : Nat))) w') :
    if Region.wanted o (yielded ops a.tmps) = true then Oper.wp P o a w K Q else E := by
  have hw : Region.wanted o (yielded ops a.tmps) = true := by simp [Region.wanted, hgd]
  rw [if_pos hw]
  have hrun := run_copy_rowsAt (P := P) (w := w) dT sT o.type elem g off dLen dCap ad sLen sCap size cur.toArray t cs hu hsz hg (by rw [hm]; exact hn) hsrc (by simpa using hfit) h1
  rw [hm] at hrun
  unfold Oper.wp
  simp [execOp, ho, resolve, invoke, builtin, hd, hs, hrun, Result.andThen]
  exact h _ (Lib.hid (by unfold Box; rw [setRow_heap w g _ _ t _ hg])) ⟨rfl, rfl, rfl, by simp [World.setRow], fun i _ hi => setRow_other w g i _ hi⟩
end
theorem mcells_append (xs ys : List RMsg) : mcells (xs ++ ys) = mcells xs ++ mcells ys := by unfold mcells; rw [List.flatMap_append]
def oldMsg : RMsg := ⟨RY.zero, 255⟩
/-- m filled, the others empty -/
def filled (m n : Nat) : List RMsg := List.replicate m oldMsg ++ List.replicate (n - m) RMsg.zero
theorem filled_len {m n : Nat} (h : m ≤ n) : (filled m n).length = n := by unfold filled; simp; omega
theorem filled_step {m n c : Nat} (h : m + c ≤ n) : splice (mcells (filled m n)) (m * 2) (mcells (List.replicate c oldMsg)) = mcells (filled (m + c) n) := by
  have e : List.replicate (n - m) RMsg.zero = List.replicate c RMsg.zero ++ List.replicate (n - (m + c)) RMsg.zero := by rw [List.replicate_append_replicate]; congr 1; omega
  unfold splice filled
  rw [e, mcells_append, mcells_append, mcells_append, ← List.replicate_append_replicate (n := m) (m := c), mcells_append]
  have l1 : (mcells (List.replicate m oldMsg)).length = m * 2 := by rw [mcells_length, List.length_replicate]
  have l2 : (mcells (List.replicate c oldMsg)).length = c * 2 := by rw [mcells_length, List.length_replicate]
  have l3 : (mcells (List.replicate c RMsg.zero)).length = c * 2 := by rw [mcells_length, List.length_replicate]
  rw [List.take_append_of_le_length (by omega), List.take_of_length_le (by omega), l2, List.drop_append, List.drop_of_length_le (by omega), l1, List.drop_append, List.drop_of_length_le (by omega), l3]
  rw [show m * 2 + c * 2 - m * 2 - c * 2 = 0 by omega, List.drop_zero]
  simp
theorem filled_full (n : Nat) : filled n n = List.replicate n oldMsg := by unfold filled; simp
theorem filled_src {w : World} {g m n c : Nat} (h : Box w g 53 (mcells (filled m n)).toArray) (hc : c ≤ m) : ∀ j v, (mcells (List.replicate c oldMsg))[j]? = some v → w.cell? ((⟨g, 0, none⟩ : Addr).add j) = some v := by
  intro j v hj
  have e : filled m n = List.replicate c oldMsg ++ (List.replicate (m - c) oldMsg ++ List.replicate (n - m) RMsg.zero) := by
    unfold filled
    rw [← List.append_assoc, List.replicate_append_replicate]
    congr 2; omega
  have hl := (List.getElem?_eq_some_iff.1 hj).1
  have hcell := h.cell j v (by rw [e, mcells_append]; simp [List.getElem?_append_left hl, hj])
  by_cases hj0 : j = 0
  · subst hj0; simpa [Addr.add] using hcell
  · simpa [Addr.add, hj0] using hcell
set_option maxRecDepth 100000 in
theorem mul64m_4 (w : World) : Calls Try.prog 104 #[.int .u64 1, .int .u64 4] w fun e w' => e = .returned (.tuple #[.int .u64 0, .int .u64 4]) ∧ w' = w := by
  have hA : bits .and .u64 1 4294967295 = 1 := by decide +kernel
  have hB : bits .and .u64 4 4294967295 = 4 := by decide +kernel
  have hC : bits .and .u64 0 4294967295 = 0 := by decide +kernel
  have hw0 : IntKind.u64.wrap 0 = 0 := by decide +kernel
  have hw4 : IntKind.u64.wrap 4 = 4 := by decide +kernel
  go_enter Try.func104, Try.ntmps104
  go_wp2_with fail
  go_ret2
  exact ⟨rfl, rfl⟩
set_option maxRecDepth 100000 in
theorem mulm_4 (w : World) : Calls Try.prog 89 #[.int .u64 1, .int .u64 4] w fun e w' => e = .returned (.tuple #[.int .u64 0, .int .u64 4]) ∧ w' = w := by
  go_enter Try.func89, Try.ntmps89
  go_wp2_with fail
  with_reducible refine (mul64m_4 _).mono ?_
  rintro e w1 ⟨rfl, rfl⟩
  go_wp2_with fail
  go_ret2
  exact ⟨rfl, rfl⟩
set_option maxRecDepth 100000 in
theorem mul64m_5 (w : World) : Calls Try.prog 104 #[.int .u64 1, .int .u64 5] w fun e w' => e = .returned (.tuple #[.int .u64 0, .int .u64 5]) ∧ w' = w := by
  have hA : bits .and .u64 1 4294967295 = 1 := by decide +kernel
  have hB : bits .and .u64 5 4294967295 = 5 := by decide +kernel
  have hC : bits .and .u64 0 4294967295 = 0 := by decide +kernel
  have hw0 : IntKind.u64.wrap 0 = 0 := by decide +kernel
  have hw4 : IntKind.u64.wrap 5 = 5 := by decide +kernel
  go_enter Try.func104, Try.ntmps104
  go_wp2_with fail
  go_ret2
  exact ⟨rfl, rfl⟩
set_option maxRecDepth 100000 in
theorem mulm_5 (w : World) : Calls Try.prog 89 #[.int .u64 1, .int .u64 5] w fun e w' => e = .returned (.tuple #[.int .u64 0, .int .u64 5]) ∧ w' = w := by
  go_enter Try.func89, Try.ntmps89
  go_wp2_with fail
  with_reducible refine (mul64m_5 _).mono ?_
  rintro e w1 ⟨rfl, rfl⟩
  go_wp2_with fail
  go_ret2
  exact ⟨rfl, rfl⟩
set_option maxRecDepth 100000 in
theorem mul64m_6 (w : World) : Calls Try.prog 104 #[.int .u64 1, .int .u64 6] w fun e w' => e = .returned (.tuple #[.int .u64 0, .int .u64 6]) ∧ w' = w := by
  have hA : bits .and .u64 1 4294967295 = 1 := by decide +kernel
  have hB : bits .and .u64 6 4294967295 = 6 := by decide +kernel
  have hC : bits .and .u64 0 4294967295 = 0 := by decide +kernel
  have hw0 : IntKind.u64.wrap 0 = 0 := by decide +kernel
  have hw4 : IntKind.u64.wrap 6 = 6 := by decide +kernel
  go_enter Try.func104, Try.ntmps104
  go_wp2_with fail
  go_ret2
  exact ⟨rfl, rfl⟩
set_option maxRecDepth 100000 in
theorem mulm_6 (w : World) : Calls Try.prog 89 #[.int .u64 1, .int .u64 6] w fun e w' => e = .returned (.tuple #[.int .u64 0, .int .u64 6]) ∧ w' = w := by
  go_enter Try.func89, Try.ntmps89
  go_wp2_with fail
  with_reducible refine (mul64m_6 _).mono ?_
  rintro e w1 ⟨rfl, rfl⟩
  go_wp2_with fail
  go_ret2
  exact ⟨rfl, rfl⟩
set_option maxRecDepth 100000 in
theorem mul64m_7 (w : World) : Calls Try.prog 104 #[.int .u64 1, .int .u64 7] w fun e w' => e = .returned (.tuple #[.int .u64 0, .int .u64 7]) ∧ w' = w := by
  have hA : bits .and .u64 1 4294967295 = 1 := by decide +kernel
  have hB : bits .and .u64 7 4294967295 = 7 := by decide +kernel
  have hC : bits .and .u64 0 4294967295 = 0 := by decide +kernel
  have hw0 : IntKind.u64.wrap 0 = 0 := by decide +kernel
  have hw4 : IntKind.u64.wrap 7 = 7 := by decide +kernel
  go_enter Try.func104, Try.ntmps104
  go_wp2_with fail
  go_ret2
  exact ⟨rfl, rfl⟩
set_option maxRecDepth 100000 in
theorem mulm_7 (w : World) : Calls Try.prog 89 #[.int .u64 1, .int .u64 7] w fun e w' => e = .returned (.tuple #[.int .u64 0, .int .u64 7]) ∧ w' = w := by
  go_enter Try.func89, Try.ntmps89
  go_wp2_with fail
  with_reducible refine (mul64m_7 _).mono ?_
  rintro e w1 ⟨rfl, rfl⟩
  go_wp2_with fail
  go_ret2
  exact ⟨rfl, rfl⟩
set_option maxRecDepth 100000 in
theorem mul64m_8 (w : World) : Calls Try.prog 104 #[.int .u64 1, .int .u64 8] w fun e w' => e = .returned (.tuple #[.int .u64 0, .int .u64 8]) ∧ w' = w := by
  have hA : bits .and .u64 1 4294967295 = 1 := by decide +kernel
  have hB : bits .and .u64 8 4294967295 = 8 := by decide +kernel
  have hC : bits .and .u64 0 4294967295 = 0 := by decide +kernel
  have hw0 : IntKind.u64.wrap 0 = 0 := by decide +kernel
  have hw4 : IntKind.u64.wrap 8 = 8 := by decide +kernel
  go_enter Try.func104, Try.ntmps104
  go_wp2_with fail
  go_ret2
  exact ⟨rfl, rfl⟩
set_option maxRecDepth 100000 in
theorem mulm_8 (w : World) : Calls Try.prog 89 #[.int .u64 1, .int .u64 8] w fun e w' => e = .returned (.tuple #[.int .u64 0, .int .u64 8]) ∧ w' = w := by
  go_enter Try.func89, Try.ntmps89
  go_wp2_with fail
  with_reducible refine (mul64m_8 _).mono ?_
  rintro e w1 ⟨rfl, rfl⟩
  go_wp2_with fail
  go_ret2
  exact ⟨rfl, rfl⟩

theorem madeMsgs (n : Nat) : (madeCells #[.slice none 0 0, .int .i64 0] (n * 2)).toList = mcells (List.replicate n RMsg.zero) := by
  apply List.ext_getElem?
  intro i
  by_cases hi : i < n * 2
  · have h2 : i / 2 < (List.replicate n RMsg.zero).length := by simp; omega
    rcases Nat.mod_two_eq_zero_or_one i with hm | hm
    · have e : i = i / 2 * 2 + 0 := by omega
      rw [e, mcells_get _ (i / 2) 0 h2 (by decide)]
      have hlt : i / 2 * 2 < n * 2 := by omega
      simp [madeCells, hlt, RMsg.cells, RMsg.zero, RY.zero]
    · have e : i = i / 2 * 2 + 1 := by omega
      rw [e, mcells_get _ (i / 2) 1 h2 (by decide)]
      have hlt : i / 2 * 2 + 1 < n * 2 := by omega
      have hmm : (i / 2 * 2 + 1) % 2 = 1 := by omega
      simp [madeCells, hlt, hmm, RMsg.cells, RMsg.zero, RY.zero]
  · rw [List.getElem?_eq_none (by simp [madeCells]; omega), List.getElem?_eq_none (by rw [mcells_length]; simp; omega)]
set_option maxRecDepth 100000 in
set_option maxHeartbeats 2000000 in
theorem repM_any (B n : Nat) (w : World) (hB : Box w B 53 #[.slice none 0 0, .int .i64 255]) (h1 : 4 ≤ n) (h2 : n ≤ 8) :
    Calls Try.prog 66 #[.slice (some ⟨B, 0, none⟩) 1 1, .int .i64 n] w fun e w' => ∃ v, e = .returned v ∧ OwnMs w' w.heap.size v (List.replicate n oldMsg) ∧ Keeps w w' := by
  have HMU : Hid (∀ w, Calls Try.prog 89 #[.int .u64 1, .int .u64 n] w fun e w' => e = .returned (.tuple #[.int .u64 0, .int .u64 n]) ∧ w' = w) := Lib.hid (fun w => by
    obtain rfl | rfl | rfl | rfl | rfl : n = 4 ∨ n = 5 ∨ n = 6 ∨ n = 7 ∨ n = 8 := by omega
    · exact mulm_4 w
    · exact mulm_5 w
    · exact mulm_6 w
    · exact mulm_7 w
    · exact mulm_8 w)
  have hwu : IntKind.u64.wrap (n : Int) = n := by simp [IntKind.wrap, IntKind.bits, IntKind.signed]; omega
  have hwi : IntKind.i64.wrap (n : Int) = n := by simp [IntKind.wrap, IntKind.bits, IntKind.signed]; omega
  have b0 := hB.cell 0 _ rfl
  have b1 := hB.cell 1 _ rfl
  have bl := hB.lt
  have HB := Lib.hid hB
  obtain ⟨im, him, hz0, hz1, hz2⟩ := info_parts infoMsg
  have hby : im.bytes * n ≤ 281474976710656 := by rw [hz2]; omega
  have HIM := Lib.hid him
  have HI0 := Lib.hid hz0
  have HI1 := Lib.hid hz1
  have d0 : decide ((n : Int) < 0) = false := by simp
  have d1 : decide ((9223372036854775807 : Int) < (n : Int)) = false := by simp; omega
  have d2 : decide (9223372036854775807 < n) = false := by simp; omega
  clear him hz0 hz1 hz2 hB
  go_enter Try.func66, Try.ntmps66
  go_wp2_with fail
  (with_reducible refine (HMU.out _).mono ?_)
  rintro e w1 ⟨rfl, rfl⟩
  go_wp2_with (refine wpList_make_full _ rfl _ _ 37 rfl w1.heap.size 53 im _ 2 Try.underlying37 HIM.out HI0.out HI1.out .i64 .i64 (n : Int) (n : Int) n rfl rfl rfl rfl hby (by unfold maxLen; omega) (Nat.le_refl _) ?hmain)
  case hmain =>
    intro w2 hown hgr
    obtain ⟨hbox, -, -⟩ := ownsRow_box hown
    rw [madeMsgs] at hbox
    have hk2 : Keeps w1 w2 := (Below.refl w1.heap.size w1).grown hgr (Nat.le_refl _) (fun k hk => by cases hk)
    have HG : Hid (Box w2 w1.heap.size 53 (mcells (filled 0 n)).toArray) := Lib.hid hbox
    have HK := Lib.hid hk2
    replace HB := Lib.hid (HB.out.keeps hk2)
    clear hown hgr hbox hk2 b0 b1 HIM HI0 HI1
    have HSR : Hid (∀ j v, (mcells (List.replicate 1 oldMsg))[j]? = some v → w2.cell? ((⟨B, 0, none⟩ : Addr).add j) = some v) := Lib.hid (fun j v hj => by
      match j, hj with
      | 0, hj => simp [mcells, RMsg.cells, oldMsg, RY.zero] at hj; subst hj; exact HB.out.cell 0 _ rfl
      | 1, hj => simp [mcells, RMsg.cells, oldMsg, RY.zero] at hj; subst hj; exact HB.out.cell 1 _ rfl)
    have hmin : Nat.min 1 n = 1 := Nat.min_eq_left (by omega)
    have HFL := Lib.hid (show 0 + (mcells (List.replicate 1 oldMsg)).length ≤ (mcells (filled 0 n)).length by rw [mcells_length, mcells_length, filled_len (by omega), List.length_replicate]; omega)
    obtain ⟨G, hG⟩ : ∃ G, G = w1.heap.size := ⟨_, rfl⟩
    have hGle : w1.heap.size ≤ G := by omega
    rw [← hG] at HG ⊢
    clear hG
    go_wp2_with (refine wpList_copy_rowsAt rfl _ _ 37 37 rfl 53 2 Try.underlying37 sizeMsg G 0 n n ⟨B, 0, none⟩ 1 1 rfl rfl _ 53 (by exact HG.out) (mcells (List.replicate 1 oldMsg)) 1 hmin rfl (by exact HSR.out) (by exact HFL.out) (by exact mcells_one _) ?hm2)
    case hm2 =>
      intro w3 hg3 hkb
      have HG3 : Hid (Box w3 G 53 (mcells (filled 1 n)).toArray) := Lib.hid (by
        have h : Box w3 G 53 (splice (mcells (filled 0 n)) (0 * 2) (mcells (List.replicate 1 oldMsg))).toArray := hg3.out
        rw [filled_step (by omega)] at h
        exact h)
      have HK3 : Hid (Keeps w1 w3) := Lib.hid (KeepsBut.keeps HK.out hkb hGle)
      clear hg3 hkb HSR HFL HG HB bl HK
      go_wp2_with fail
      go_loopw [8] (fun i wr => ∃ m : Nat, 1 ≤ m ∧ m ≤ n ∧ i = .int .i64 m ∧ Hid (Box wr G 53 (mcells (filled m n)).toArray) ∧ Hid (Keeps w1 wr)) (fun i _ => n - (intOf i).toNat)
      case atStart => exact ⟨1, Nat.le_refl _, by omega, rfl, HG3, HK3⟩
      case round =>
        clear HG3 HK3
        obtain ⟨m, hm1, hm2, rfl, HG, HK⟩ := hrel
        by_cases hlt : m < n
        · obtain ⟨c, hc⟩ : ∃ c, c = Nat.min m (n - m) := ⟨_, rfl⟩
          have hc0 : c ≤ m ∧ c ≤ n - m ∧ 1 ≤ c := by rw [hc]; have h1 := Nat.min_le_left m (n - m); have h2 := Nat.min_le_right m (n - m); exact ⟨h1, h2, Nat.le_min.2 ⟨hm1, by omega⟩⟩
          have HC := Lib.hid hc.symm
          clear hc
          have hw : IntKind.i64.wrap ((m : Int) + (c : Int)) = ((m + c : Nat) : Int) := by simp [IntKind.wrap, IntKind.bits, IntKind.signed]; omega
          have HFL := Lib.hid (show m * 2 + (mcells (List.replicate c oldMsg)).length ≤ (mcells (filled m n)).length by rw [mcells_length, mcells_length, filled_len (by omega), List.length_replicate]; omega)
          have HLE := Lib.hid (show (mcells (List.replicate c oldMsg)).length = c * 2 by rw [mcells_length, List.length_replicate])
          have HS := Lib.hid (filled_src (HG.out.keeps (Keeps.refl wr).drew) hc0.1)
          go_wp2_with fail
          go_region_law (refine step_copy_rows rfl (.tmp 41) (.tmp 44) 37 37 rfl 53 2 Try.underlying37 sizeMsg G (m * 2) (n - m) (n - m) ⟨G, 0, none⟩ m n (by simp [go_sem]; omega) (by simp [go_sem]) _ 53 (by exact HG.out.keeps (Keeps.refl _).drew) (mcells (List.replicate c oldMsg)) c (by exact HC.out) (by exact HLE.out) (by exact HS.out) (by exact HFL.out) (mcells_one _) ?_; intro w4 hg4 hb4)
          have HG2 : Hid (Box w4 G 53 (mcells (filled (m + c) n)).toArray) := Lib.hid (by
            have h := hg4.out
            rw [filled_step (by omega)] at h
            exact h)
          have HK2 : Hid (Keeps w1 w4) := Lib.hid (KeepsBut.keeps (HK.out.drew) hb4 hGle)
          clear hg4 hb4 HG HK HS HLE HFL
          simp only [Act.put, goInt, List.setIfInBounds_toArray, List.set_cons_zero, List.set_cons_succ, hw]
          go_roundw
          case rel => exact ⟨_, _, _, _, _, _, _, _, _, _, _, _, _, _, ⟨m + c, by omega, by omega, rfl, HG2, HK2⟩, rfl⟩
          case measure => simp [intOf]; omega
        · obtain rfl : m = n := by omega
          have HF : Hid (Box wr G 53 (mcells (List.replicate m oldMsg)).toArray) := Lib.hid (by rw [← filled_full]; exact HG.out)
          go_wp2_with fail
          go_ret
          refine ⟨_, rfl, ?_, HK.out⟩
          have h := OwnMs.ofBox (base := w1.heap.size) (g := G) HF.out hGle (by simp; omega) (fun x hx => by rw [List.eq_of_mem_replicate hx]; exact RY.zero_in _) (fun x hx h0 => by rw [List.eq_of_mem_replicate hx] at h0; exact absurd h0 (Nat.not_lt_zero _))
          rw [List.length_replicate] at h
          exact h
/-- an interface at first -/
def newP (id n : Int) : PCni := cond (betw n 4 8 && betw id 0 (n - 1)) ⟨id, [], List.replicate n.toNat ([], 255), 4, -1⟩ PCni.zero
def newE (id n : Int) : Int := cond (betw n 4 8 && betw id 0 (n - 1)) 0 120
set_option maxRecDepth 100000 in
set_option maxHeartbeats 2000000 in
theorem new_any (id n : Int) (w : World) : Calls Try.prog 37 #[.int .i64 id, .int .i64 n] w (CniPost (newP id n) (newE id n) w) := by
  have HP : Hid (newP id n = cond (betw n 4 8 && betw id 0 (n - 1)) ⟨id, [], List.replicate n.toNat ([], 255), 4, -1⟩ PCni.zero) := Lib.hid rfl
  have HE : Hid (newE id n = cond (betw n 4 8 && betw id 0 (n - 1)) 0 120) := Lib.hid rfl
  obtain ⟨P, hP⟩ : ∃ P, P = newP id n := ⟨_, rfl⟩
  obtain ⟨E, hE⟩ : ∃ E, E = newE id n := ⟨_, rfl⟩
  rw [← hP] at HP ⊢
  rw [← hE] at HE ⊢
  clear hP hE
  have HK := Lib.hid ((Keeps.refl w).alloc (.cells #[.int .i64 0, .slice none 0 0, .slice none 0 0, .int .i64 0, .int .i64 0] 39))
  have HZ := Lib.hid (Box.new w 39 #[.int .i64 0, .slice none 0 0, .slice none 0 0, .int .i64 0, .int .i64 0])
  by_cases t1 : betw n 4 8 = true
  case neg =>
    have e1 : betw n 4 8 = false := by simpa using t1
    have HP0 : Hid (P = PCni.zero) := Lib.hid (by rw [HP.out, e1]; rfl)
    have HE0 : Hid (E = 120) := Lib.hid (by rw [HE.out, e1]; rfl)
    clear HP HE t1
    go_enter Try.func37, Try.ntmps37
    go_wp2_with (go_at_call 61; (with_reducible refine (within12_any _ _ _ _).mono ?_); rintro e w' ⟨rfl, rfl⟩)
    refine bodyPost_ret (v := .tuple #[.agg #[.int .i64 0, .slice none 0 0, .slice none 0 0, .int .i64 0, .int .i64 0], .int .i64 120]) (by simp [results, Try.results37, go_sem, *]) rfl ⟨RCni.zero, by rw [HE0.out]; rfl, HP0.out.symm, RCni.zero_own _ _, ?_⟩
    repeat (first | with_reducible refine Keeps.setCell ?_ (by simp <;> omega) _)
    exact HK.out
  have f1 := (betw_iff _ _ _).1 t1
  have hw : IntKind.i64.wrap (n - 1) = n - 1 := by simp [IntKind.wrap, IntKind.bits, IntKind.signed]; omega
  by_cases t2 : betw id 0 (n - 1) = true
  case neg =>
    have e2 : betw id 0 (n - 1) = false := by simpa using t2
    have HP0 : Hid (P = PCni.zero) := Lib.hid (by rw [HP.out, e2]; simp)
    have HE0 : Hid (E = 120) := Lib.hid (by rw [HE.out, e2]; simp)
    clear HP HE t2
    go_enter Try.func37, Try.ntmps37
    go_wp2_with (go_at_call 61; (with_reducible refine (within12_any _ _ _ _).mono ?_); rintro e w' ⟨rfl, rfl⟩)
    refine bodyPost_ret (v := .tuple #[.agg #[.int .i64 0, .slice none 0 0, .slice none 0 0, .int .i64 0, .int .i64 0], .int .i64 120]) (by simp [results, Try.results37, go_sem, *]) rfl ⟨RCni.zero, by rw [HE0.out]; rfl, HP0.out.symm, RCni.zero_own _ _, ?_⟩
    repeat (first | with_reducible refine Keeps.setCell ?_ (by simp <;> omega) _)
    exact HK.out
  obtain ⟨k, rfl⟩ : ∃ k : Nat, n = k := ⟨n.toNat, by omega⟩
  have HP0 : Hid (P = ⟨id, [], List.replicate k ([], 255), 4, -1⟩) := Lib.hid (by rw [HP.out, t1, t2]; rfl)
  have HE0 : Hid (E = 0) := Lib.hid (by rw [HE.out, t1, t2]; rfl)
  clear HP HE
  have hb := Box.new (w.alloc (.cells #[.int .i64 0, .slice none 0 0, .slice none 0 0, .int .i64 0, .int .i64 0] 39)) 53 #[.slice none 0 0, .int .i64 255]
  rw [World.size_alloc] at hb
  have HB := Lib.hid hb
  clear hb
  have HZ2 := Lib.hid (HZ.out.next (.cells #[.slice none 0 0, .int .i64 255] 53))
  have HK2 := Lib.hid (HK.out.alloc (.cells #[.slice none 0 0, .int .i64 255] 53))
  go_enter Try.func37, Try.ntmps37
  go_wp2_with (go_at_call 61; (with_reducible refine (within12_any _ _ _ _).mono ?_); rintro e w' ⟨rfl, rfl⟩)
  (with_reducible refine (repM_any _ k _ (by exact HB.out) (by omega) (by omega)).mono ?_)
  rintro e w1 ⟨v, rfl, ho, hk1⟩
  have HO := Lib.hid ho
  obtain ⟨a, cap, hv, hrs, hg⟩ := ho.shape
  rw [List.length_replicate] at hv hg
  obtain ⟨g, rfl, hg1, -⟩ := hg (by omega)
  subst hv
  have hgw : w.heap.size < g := by simp at hg1; omega
  replace HZ := Lib.hid (HZ2.out.keeps hk1)
  replace HK := Lib.hid (HK2.out.trans hk1)
  clear hk1 ho hrs hg hg1 HB HZ2 HK2
  have z0 := HZ.out.cell 0 _ rfl
  have z1 := HZ.out.cell 1 _ rfl
  have z2 := HZ.out.cell 2 _ rfl
  have z3 := HZ.out.cell 3 _ rfl
  have z4 := HZ.out.cell 4 _ rfl
  have zl := HZ.out.lt
  have zf := HZ.out.frozen
  go_wp2_with fail
  refine bodyPost_ret (v := .tuple #[.agg #[.int .i64 id, .slice none 0 0, .slice (some ⟨g, 0, none⟩) k cap, .int .i64 4, .int .i64 (-1)], .int .i64 0]) (by simp [results, Try.results37, go_sem, *]) rfl
    ⟨⟨id, RY.zero, some ⟨g, 0, none⟩, k, cap, List.replicate k oldMsg, 4, -1⟩, by rw [HE0.out]; rfl, ?_, ⟨RY.zero_in _, ?_, fun h => absurd h (Nat.not_lt_zero _), fun h => absurd h (Nat.not_lt_zero _), fun x hx h0 => by rw [List.eq_of_mem_replicate hx] at h0; exact absurd h0 (Nat.not_lt_zero _)⟩, ?_⟩
  · rw [HP0.out]; simp [RCni.p, RY.zero, oldMsg, RMsg.p]
  · have hv0 : Value.ownBlock (.slice (some ⟨g, 0, none⟩) k cap) ≠ some w.heap.size := by simp only [Value.ownBlock, ne_eq, Option.some.injEq]; omega
    have hx0 : ∀ x ∈ List.replicate k oldMsg, 0 < x.d.len → ∀ a, x.d.a = some a → a.block ≠ w.heap.size := fun x hx h0 => by rw [List.eq_of_mem_replicate hx] at h0; exact absurd h0 (Nat.not_lt_zero _)
    refine OwnMs.mono (base := (w.alloc (.cells #[.int .i64 0, .slice none 0 0, .slice none 0 0, .int .i64 0, .int .i64 0] 39)).heap.size) ?_ (by simp)
    repeat (first | refine OwnMs.keepsBut ?_ (KeepsBut.setCell _ _ _ _) hv0 hx0)
    exact HO.out.mono (by simp)
  · repeat (first | with_reducible refine Keeps.setCell ?_ (by simp <;> omega) _)
    exact HK.out
end Go.Proofs.Ytcophhdlcjemeaa
