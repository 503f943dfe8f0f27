/- Layer 10, 3: modes.taken. -/
import Derived.Test.YtmjodcackmjllaaD2
namespace Go.Proofs.Ytmjodcackmjllaa
open Go.RowKit Go.Shelf
set_option linter.unusedVariables false
set_option linter.unusedSimpArgs false
attribute [local go_sem] Oper.semAt_some
theorem onS_b {S : Nat → Prop} {w : World} (hS : ∀ k, S k → k < w.heap.size) (W : World) (l : Nat) (o o' : Obj) (hl : w.heap.size ≤ l) (h : W.heap[l]? = some o) (h1 : o.isCells = false) (h2 : o.isWalk = false) : KeepsS S W (W.putObj l o') :=
  Below.onS (n := w.heap.size) (belowK_b (w := w) (Nat.le_refl _) W l o o' hl h h1 h2) hS (by simp)
theorem Boxed.putD {W : World} {B D t : Nat} {v : Value} {o : Obj} (h : Boxed W B t v) (hne : B ≠ D) : Boxed (W.putObj D o) B t v := by
  unfold Boxed at h ⊢
  exact ((grownBy_putObj' W D o).block B (Array.getElem?_eq_some_iff.1 h).1 (by intro e; cases e; exact hne rfl)).trans h
/-- what the loop keeps of its own cells -/
def TakenI (w : World) (k : Int) (pre : List Nat) (W : World) : Prop :=
  Boxed W (w.heap.size + 2) 3 (.int .i64 k) ∧ Boxed W (w.heap.size + 3) 3 (.int .i64 0) ∧ Below w.heap.size w W ∧ ∀ j ∈ pre, (j : Int) ≠ k
theorem TakenI.own (w : World) (k : Int) (D : Nat) (hD : w.heap.size ≤ D) : Go.OwnFrom D (TakenI w k) := by
  unfold TakenI
  exact Go.OwnFrom.and (Go.Own.from (boxed_own _ _ (fun _ => _)) _) (Go.OwnFrom.and (Go.Own.from (boxed_own _ _ (fun _ => _)) _) (Go.OwnFrom.and (ownFrom_below (Nat.le_refl _) hD) (ownFrom_pure _ _)))
def TakenX (w : World) (k : Int) (c : Code) (pre : List Nat) (W : World) : Prop :=
  (c = .ret ∧ ∃ (ini : List Nat) (x : Nat), pre = ini ++ [x] ∧ (x : Int) = k) ∧ Boxed W (w.heap.size + 3) 3 (.int .i64 k) ∧ Below w.heap.size w W
theorem TakenX.own (w : World) (k : Int) (D : Nat) (hD : w.heap.size ≤ D) (c : Code) : Go.OwnFrom D (TakenX w k c) := by
  unfold TakenX
  exact Go.OwnFrom.and (ownFrom_pure _ _) (Go.OwnFrom.and (Go.Own.from (boxed_own _ _ (fun _ => _)) _) (ownFrom_below (Nat.le_refl _) hD))
set_option maxRecDepth 100000 in
set_option maxHeartbeats 2000000 in
theorem taken_any (m : RMedl) (c : CS) (k : Int) (w : World) (hm : m.In w) :
    Calls Try.prog 56 #[m.val, c.val, .int .i64 k] w fun e w' => e = .returned (.int .i64 (takenP m c k)) ∧ Keeps w w' := by
  have HNO : Hid ((∀ j ∈ nextsP m c, (j : Int) ≠ k) → takenP m c k = -1) := Lib.hid (fun h => by
    unfold takenP
    cases hb : asksB m c && mayP m c k
    · rfl
    · exfalso
      rw [Bool.and_eq_true] at hb
      have h2 := hb.2
      unfold mayP at h2
      simp only [Bool.and_eq_true] at h2
      have h3 := (mIn_iff m k).1 h2.1
      have h4 : ((k.toNat : Nat) : Int) = k := Int.toNat_of_nonneg h3.1
      exact h k.toNat ((mem_nextsP m c k.toNat).2 ⟨hb.1, by rw [h4]; exact hb.2⟩) h4)
  have HYES : Hid (∀ x : Nat, (x : Int) = k → x ∈ nextsP m c → takenP m c k = k) := Lib.hid (fun x hx h => by
    have h2 := (mem_nextsP m c x).1 h
    rw [hx] at h2
    unfold takenP
    rw [h2.1, h2.2]; rfl)
  have HNS := Lib.hid (fun (B : Nat) (w0 W : World) (h0 : m.In w0) => nexts_stops 3 (by omega) B m c w0 W h0)
  have HNF := Lib.hid (nextsf_any m c)
  obtain ⟨R, hR⟩ : ∃ R, R = takenP m c k := ⟨_, rfl⟩
  obtain ⟨FL, hFL⟩ : ∃ FL, FL = nextsP m c := ⟨_, rfl⟩
  rw [← hR, ← hFL] at HNO HYES
  rw [← hFL] at HNS
  rw [← hR]
  clear hR hFL
  have HM := Lib.hid hm
  clear hm
  obtain ⟨ca, cc, hcv, hc1, hc2, hc3⟩ := HM.out.c.shape
  clear hc3
  have hlen := HM.out.m.len
  obtain ⟨no, sl, ga, wi, dr, de, cv, cs, ma, mn, mc, xs⟩ := m
  obtain ⟨ct, cp, cm, cx, cb⟩ := c
  simp only at hcv hc1 hlen HNS HNF
  subst hlen hcv
  refine (callsIn_wide (n := 4)).1 ?_
  refine callsIn_of_wp_marks Try.func56 rfl trivial ?_ rfl
  simp only [Try.ntmps56, List.size_toArray, List.length_cons, List.length_nil, Nat.reduceAdd, Nat.reduceSub, Array.replicate_succ, Array.replicate_zero, List.push_toArray, List.append_toArray, List.nil_append, List.cons_append]
  gi_wp2_with fail
  refine ⟨trivial, ?_⟩
  with_reducible refine (callsIn_wide.2 (HNF.out _)).mono ?_
  rintro e w1 ⟨rfl, rfl⟩
  gi_wp2_with fail
  have b2 := (((Boxed.new ((w.alloc (.cells #[.int .i64 no, .int .i64 sl, .int .i64 ga, .int .i64 wi, .int .i64 dr, .int .i64 de, .slice ca cs.length cc, .slice ma xs.length mc] 25)).alloc (.cells #[.int .i64 ct, .int .i64 cp, .int .i64 cm, .int .i64 cx, .int .i64 cb] 27)) 3 (.int .i64 k)).alloc (.cells #[.int .i64 0] 3)).alloc (.cells #[.int .i64 no, .int .i64 sl, .int .i64 ga, .int .i64 wi, .int .i64 dr, .int .i64 de, .slice ca cs.length cc, .slice ma xs.length mc] 25)).alloc (.cells #[.int .i64 ct, .int .i64 cp, .int .i64 cm, .int .i64 cx, .int .i64 cb] 27)
  have b3 := ((Boxed.new (((w.alloc (.cells #[.int .i64 no, .int .i64 sl, .int .i64 ga, .int .i64 wi, .int .i64 dr, .int .i64 de, .slice ca cs.length cc, .slice ma xs.length mc] 25)).alloc (.cells #[.int .i64 ct, .int .i64 cp, .int .i64 cm, .int .i64 cx, .int .i64 cb] 27)).alloc (.cells #[.int .i64 k] 3)) 3 (.int .i64 0)).alloc (.cells #[.int .i64 no, .int .i64 sl, .int .i64 ga, .int .i64 wi, .int .i64 dr, .int .i64 de, .slice ca cs.length cc, .slice ma xs.length mc] 25)).alloc (.cells #[.int .i64 ct, .int .i64 cp, .int .i64 cm, .int .i64 cx, .int .i64 cb] 27)
  have hb := (Box.new ((((w.alloc (.cells #[.int .i64 no, .int .i64 sl, .int .i64 ga, .int .i64 wi, .int .i64 dr, .int .i64 de, .slice ca cs.length cc, .slice ma xs.length mc] 25)).alloc (.cells #[.int .i64 ct, .int .i64 cp, .int .i64 cm, .int .i64 cx, .int .i64 cb] 27)).alloc (.cells #[.int .i64 k] 3)).alloc (.cells #[.int .i64 0] 3)) 25 #[.int .i64 no, .int .i64 sl, .int .i64 ga, .int .i64 wi, .int .i64 dr, .int .i64 de, .slice ca cs.length cc, .slice ma xs.length mc]).next (.cells #[.int .i64 ct, .int .i64 cp, .int .i64 cm, .int .i64 cx, .int .i64 cb] 27)
  have ha := Box.new (((((w.alloc (.cells #[.int .i64 no, .int .i64 sl, .int .i64 ga, .int .i64 wi, .int .i64 dr, .int .i64 de, .slice ca cs.length cc, .slice ma xs.length mc] 25)).alloc (.cells #[.int .i64 ct, .int .i64 cp, .int .i64 cm, .int .i64 cx, .int .i64 cb] 27)).alloc (.cells #[.int .i64 k] 3)).alloc (.cells #[.int .i64 0] 3)).alloc (.cells #[.int .i64 no, .int .i64 sl, .int .i64 ga, .int .i64 wi, .int .i64 dr, .int .i64 de, .slice ca cs.length cc, .slice ma xs.length mc] 25)) 27 #[.int .i64 ct, .int .i64 cp, .int .i64 cm, .int .i64 cx, .int .i64 cb]
  simp only [World.size_alloc] at b2 b3 hb ha
  have hB0 : Below w.heap.size w ((((((w.alloc (.cells #[.int .i64 no, .int .i64 sl, .int .i64 ga, .int .i64 wi, .int .i64 dr, .int .i64 de, .slice ca cs.length cc, .slice ma xs.length mc] 25)).alloc (.cells #[.int .i64 ct, .int .i64 cp, .int .i64 cm, .int .i64 cx, .int .i64 cb] 27)).alloc (.cells #[.int .i64 k] 3)).alloc (.cells #[.int .i64 0] 3)).alloc (.cells #[.int .i64 no, .int .i64 sl, .int .i64 ga, .int .i64 wi, .int .i64 dr, .int .i64 de, .slice ca cs.length cc, .slice ma xs.length mc] 25)).alloc (.cells #[.int .i64 ct, .int .i64 cp, .int .i64 cm, .int .i64 cx, .int .i64 cb] 27)) := ((((((Below.refl _ w).alloc (Nat.le_refl _) _).alloc (by simp) _).alloc (by simp; omega) _).alloc (by simp; omega) _).alloc (by simp; omega) _).alloc (by simp; omega) _
  have hk0 : Keeps w ((((((w.alloc (.cells #[.int .i64 no, .int .i64 sl, .int .i64 ga, .int .i64 wi, .int .i64 dr, .int .i64 de, .slice ca cs.length cc, .slice ma xs.length mc] 25)).alloc (.cells #[.int .i64 ct, .int .i64 cp, .int .i64 cm, .int .i64 cx, .int .i64 cb] 27)).alloc (.cells #[.int .i64 k] 3)).alloc (.cells #[.int .i64 0] 3)).alloc (.cells #[.int .i64 no, .int .i64 sl, .int .i64 ga, .int .i64 wi, .int .i64 dr, .int .i64 de, .slice ca cs.length cc, .slice ma xs.length mc] 25)).alloc (.cells #[.int .i64 ct, .int .i64 cp, .int .i64 cm, .int .i64 cx, .int .i64 cb] 27)) := ((((((Keeps.refl w).alloc _).alloc _).alloc _).alloc _).alloc _).alloc _
  have HST := Lib.hid (HNS.out (w.heap.size + 1 + 1 + 1 + 1) w ((((((w.alloc (.cells #[.int .i64 no, .int .i64 sl, .int .i64 ga, .int .i64 wi, .int .i64 dr, .int .i64 de, .slice ca cs.length cc, .slice ma xs.length mc] 25)).alloc (.cells #[.int .i64 ct, .int .i64 cp, .int .i64 cm, .int .i64 cx, .int .i64 cb] 27)).alloc (.cells #[.int .i64 k] 3)).alloc (.cells #[.int .i64 0] 3)).alloc (.cells #[.int .i64 no, .int .i64 sl, .int .i64 ga, .int .i64 wi, .int .i64 dr, .int .i64 de, .slice ca cs.length cc, .slice ma xs.length mc] 25)).alloc (.cells #[.int .i64 ct, .int .i64 cp, .int .i64 cm, .int .i64 cx, .int .i64 cb] 27)) HM.out hk0 hb ha)
  clear hk0 hb ha
  refine wpIn_rangeFunc_ownG rfl (by omega) (gf := 57) (lb := #[.pointer (some ⟨w.heap.size + 1 + 1 + 1 + 1, 0, none⟩), .pointer (some ⟨w.heap.size + 1 + 1 + 1 + 1 + 1, 0, none⟩)]) rfl trivial (enters_of Try.func57 (by kernel_rfl) rfl)
    HST.out KeepsS.trans (onS_b (fun j hj => by rcases hj with h | h | h <;> simp <;> omega)) (Below.refl _ _) (fun _ => rfl)
    (TakenI w k) (TakenX w k) (TakenI.own w k _ (by simp; omega)) (TakenX.own w k _ (by simp; omega))
    ⟨b2, b3, hB0, fun j hj => by cases hj⟩
    (fun p => { tmps := #[.agg #[.int .i64 no, .int .i64 sl, .int .i64 ga, .int .i64 wi, .int .i64 dr, .int .i64 de, .slice ca cs.length cc, .slice ma xs.length mc], .agg #[.int .i64 ct, .int .i64 cp, .int .i64 cm, .int .i64 cx, .int .i64 cb], .int .i64 k, .pointer (some ⟨w.heap.size, 0, none⟩), .pointer (some ⟨w.heap.size + 1, 0, none⟩), .pointer (some ⟨w.heap.size + 1 + 1, 0, none⟩), .pointer (some ⟨w.heap.size + 1 + 1 + 1, 0, none⟩), .int .i64 (p : Int), .agg #[.int .i64 no, .int .i64 sl, .int .i64 ga, .int .i64 wi, .int .i64 dr, .int .i64 de, .slice ca cs.length cc, .slice ma xs.length mc], .agg #[.int .i64 ct, .int .i64 cp, .int .i64 cm, .int .i64 cx, .int .i64 cb],
      .func (.func 57) #[] #[.pointer (some ⟨w.heap.size + 1 + 1 + 1 + 1, 0, none⟩), .pointer (some ⟨w.heap.size + 1 + 1 + 1 + 1 + 1, 0, none⟩)], .int .i64 (p : Int), undef, undef, undef, undef], defers := [] }) ?assign ?body ?done ?stop
  case assign =>
    intro l x W K hK
    gi_wp2
    simpa using hK
  case body =>
    rintro l pre p W ⟨hb2, hb3, hB, hne⟩ hlt
    have h2 := hb2.cell
    have h3 := hb3.cell
    have f3 := hb3.frozen
    have l3 := hb3.lt
    by_cases hpk : (p : Int) = k
    · subst hpk
      have e1 : ((p : Int) == (p : Int)) = true := by simp
      gi_wp2
      exact ⟨(KeepsOthers.setCell _ _ _).from _, ⟨rfl, pre, p, rfl, rfl⟩, hb3.set _, hB.setCell (p := ⟨w.heap.size + 3, 0, none⟩) (by simp) _⟩
    · have e1 : ((p : Int) == k) = false := by rw [beq_eq_false_iff_ne]; exact hpk
      gi_wp2
      refine ⟨KeepsFrom.refl _ _, KeepsS.refl _ _, hb2, hb3, hB, fun j hj => ?_⟩
      rw [List.mem_append, List.mem_singleton] at hj
      rcases hj with hj | rfl
      · exact hne j hj
      · exact hpk
  case done =>
    rintro D ys W hD rfl ⟨hb2, hb3, hB, hne⟩ hK
    have h3 := hb3.cell
    have f3 := hb3.frozen
    have l3 := hb3.lt
    have HB := Lib.hid hB
    have HKD := Lib.hid hK
    have HRV := Lib.hid (HNO.out hne)
    clear hB hK hne
    have hD2 : w.heap.size + 6 ≤ D := by simp at hD; omega
    have HB3 : Hid (Boxed (W.setCell ⟨w.heap.size + 3, 0, none⟩ (.int .i64 (-1))) (w.heap.size + 3) 3 (.int .i64 (-1))) := Lib.hid (hb3.set _)
    gi_wp2
    have HKD2 : Hid ((W.setCell ⟨w.heap.size + 3, 0, none⟩ (.int .i64 (-1))).heap[D]? = some (.deferred (some []))) := Lib.hid (by
      rw [show (W.setCell ⟨w.heap.size + 3, 0, none⟩ (.int .i64 (-1))).heap[D]? = W.heap[D]? from Below.heap_setCell _ _ _ _ (show D ≠ w.heap.size + 3 by omega)]
      exact HKD.out)
    have hbx := Boxed.cell (Boxed.putD (D := D) (o := .deferred none) HB3.out (by omega))
    refine ⟨by simp, .inl ⟨_, _, rfl, run_takeDeferred HKD2.out, ?_⟩⟩
    refine ⟨.int .i64 (-1), ?_, by rw [HRV.out], ?_⟩
    · simp [results, Try.results56, go_sem, hbx]
    · exact (HB.out.setCell (p := ⟨w.heap.size + 3, 0, none⟩) (by simp) _).trans (belowK_b (w := w) (Nat.le_refl _) _ D _ _ (by omega) HKD2.out rfl rfl)
  case stop =>
    rintro D c pre W hD hpre ⟨⟨rfl, ini, x, rfl, hxk⟩, hb3, hB⟩ hK
    have HB := Lib.hid hB
    have HKD := Lib.hid hK
    have HRV := Lib.hid (HYES.out x hxk (hpre.subset (by simp)))
    clear hB hK hpre hxk
    have hD2 : w.heap.size + 6 ≤ D := by simp at hD; omega
    gi_wp2
    have hbx := Boxed.cell (Boxed.putD (D := D) (o := .deferred none) hb3 (by omega))
    refine ⟨by simp, .inl ⟨_, _, rfl, run_takeDeferred HKD.out, ?_⟩⟩
    refine ⟨.int .i64 k, ?_, by rw [HRV.out], ?_⟩
    · simp [results, Try.results56, go_sem, hbx]
    · exact HB.out.trans (belowK_b (w := w) (Nat.le_refl _) _ D _ _ (by omega) HKD.out rfl rfl)
end Go.Proofs.Ytmjodcackmjllaa
