/- What is told by a range over a function: at most so many truths. -/
import Derived.Test.YtkbdpdcandpfdaaW33
import Derived.Test.YtkbdpdcandpfdaaW5
import Derived.Maps.AppendAt
namespace Go.Proofs.Ytkbdpdcandpfdaa
open Go.RowKit Go.Shelf
set_option linter.unusedVariables false
set_option linter.unusedSimpArgs false
attribute [local go_sem] Oper.semAt_some

theorem Boxed.of {W : World} {B t : Nat} {v : Value} (h : Box W B t #[v]) : Boxed W B t v := h
theorem ownsRow_slice {W : World} {base : Nat} {e : TypeId} {size : Nat} {v : Value} {k : Nat} {xs : List Value} (h : W.ownsRow base e size v k xs) : ∃ a cap, v = .slice a k cap ∧ k ≤ cap ∧ cap ≤ maxLen := by
  rcases h.2 with ⟨rfl, rfl⟩ | ⟨g, cap, cur, rfl, hb, hg, hn, hm, _⟩
  · exact ⟨none, 0, rfl, Nat.le_refl _, by decide⟩
  · exact ⟨_, cap, rfl, hn, hm⟩
theorem pairs_take (bs : List Bool) (k : Nat) (h : k ≤ bs.length) : (pairs bs k).map Prod.snd = bs.take k := by
  apply List.ext_getElem
  · simp [pairs, h]
  · intro i h1 h2
    have : i < bs.length := by simp at h2; omega
    simp [pairs, this]

theorem Boxed.below {W W' : World} {n B t : Nat} {v : Value} (h : Boxed W B t v) (hb : Below n W W') (hB : B < n) : Boxed W' B t v := (Below.block hb B hB).trans h
/-- what the loop keeps of its own cells -/
def ToldI (w : World) (most : Nat) (pre : List (Nat × Bool)) (W : World) : Prop :=
  (∃ v, Boxed W (w.heap.size + 1 + 1 + 1) 46 v ∧ W.ownsRow (w.heap.size + 1 + 1 + 1) 4 1 v pre.length ((pre.map Prod.snd).map Value.bool) ∧ True) ∧
    Boxed W w.heap.size 3 (.int .i64 most) ∧ Boxed W (w.heap.size + 1) 46 (.slice none 0 0) ∧ Boxed W (w.heap.size + 1 + 1) 4 (.bool false) ∧ Below w.heap.size w W ∧ pre.length ≤ most
theorem ToldI.own (w : World) (most D : Nat) (hD : w.heap.size ≤ D) : Go.OwnFrom D (ToldI w most) := by
  unfold ToldI
  refine Go.OwnFrom.and (Go.Own.from (holdsRow_own (w.heap.size + 1 + 1 + 1) (w.heap.size + 1 + 1 + 1) 46 4 1 (fun pre : List (Nat × Bool) => pre.length) (fun pre => (pre.map Prod.snd).map Value.bool) (fun _ _ => True)) _)
    (Go.OwnFrom.and (Go.Own.from (boxed_own _ _ (fun _ => _)) _) (Go.OwnFrom.and (Go.Own.from (boxed_own _ _ (fun _ => _)) _) (Go.OwnFrom.and (Go.Own.from (boxed_own _ _ (fun _ => _)) _) (Go.OwnFrom.and (ownFrom_below (Nat.le_refl _) hD) (ownFrom_pure _ _)))))
def ToldX (w : World) (most id : Nat) (c : Code) (pre : List (Nat × Bool)) (W : World) : Prop :=
  (c = .exit id ∧ ∃ ini x, pre = ini ++ [x] ∧ ini.length = most ∧ ToldI w most ini W) ∨ (c = .ret ∧ ∃ ini x, pre = ini ++ [x] ∧ ¬ x.1 = ini.length)
theorem ToldX.own (w : World) (most id D : Nat) (hD : w.heap.size ≤ D) (c : Code) : Go.OwnFrom D (ToldX w most id c) := by
  intro s X Y row hs hg hr
  rcases hs with ⟨h1, ini, x, h2, h3, h4⟩ | h
  · exact .inl ⟨h1, ini, x, h2, h3, ToldI.own w most D hD ini X Y row h4 hg hr⟩
  · exact .inr h

set_option maxRecDepth 100000 in
set_option maxHeartbeats 2000000 in
theorem told_any (bs : List Bool) (most : Nat) (g : Nat) (lb : Array Value) (Kp : World → World → Prop) (w : World) (hlen : bs.length ≤ 100000) (hmost : most ≤ 100000)
    (hg : ∀ args w, (callFunc g args).run Try.prog w = .ok (.enter g args) w) (hKp : ∀ a b, Below w.heap.size a b → Kp a b)
    (hst : SeqStopsK Fence.wide 3 Try.prog g lb (fun p : Nat × Bool => #[Value.int .i64 (p.1 : Int), .bool p.2]) Kp (fun ys => ys = pairs bs bs.length) (fun pre => ∃ k, k ≤ bs.length ∧ pre = pairs bs k) bs.length w) :
    Calls Try.prog 35 #[.func (.func g) #[] lb, .int .i64 most] w fun e w' => ∃ v, e = .returned (.tuple #[v, .bool true]) ∧ Own w' w.heap.size 4 v ((bs.take most).map Value.bool) ∧ Keeps w w' := by
  obtain ⟨L, hL⟩ : ∃ L, L = bs.take most := ⟨_, rfl⟩
  rw [← hL]
  have HT := Lib.hid hL
  clear hL
  have HST := Lib.hid (SeqStopsK.weaken hst hKp)
  have HG := Lib.hid hg
  clear hst hg hKp
  obtain ⟨i0, hi, hz0, hz1, hz2⟩ := info_parts info_bool
  have hnil : ∀ w, (binOp .eql 53 (.func (.func g) #[] lb) .nilFunc).run Try.prog w = .ok (.bool false) w := fun _ => by kernel_rfl
  refine (callsIn_wide (n := 4)).1 ?_
  refine callsIn_of_wp_marks Try.func35 rfl trivial ?_ rfl
  simp only [Try.ntmps35, List.size_toArray, List.length_cons, List.length_nil, Nat.reduceAdd, Nat.reduceSub, Array.replicate_succ, Array.replicate_zero, List.push_toArray, List.append_toArray, List.nil_append, List.cons_append]
  gi_wp2_with fail
  have b0 := Boxed.new w 3 (.int .i64 most)
  have b1 := Boxed.new (w.alloc (.cells #[.int .i64 most] 3)) 46 (.slice none 0 0)
  have b2 := Boxed.new ((w.alloc (.cells #[.int .i64 most] 3)).alloc (.cells #[.slice none 0 0] 46)) 4 (.bool false)
  have b3 := Boxed.new (((w.alloc (.cells #[.int .i64 most] 3)).alloc (.cells #[.slice none 0 0] 46)).alloc (.cells #[.bool false] 4)) 46 (.slice none 0 0)
  simp only [World.size_alloc] at b1 b2 b3
  have hB0 : Below w.heap.size w ((((w.alloc (.cells #[.int .i64 most] 3)).alloc (.cells #[.slice none 0 0] 46)).alloc (.cells #[.bool false] 4)).alloc (.cells #[.slice none 0 0] 46)) := ((((Below.refl _ w).alloc (Nat.le_refl _) _).alloc (by simp) _).alloc (by simp; omega) _).alloc (by simp; omega) _
  refine wpIn_rangeFunc_ownG rfl (by omega) (gf := g) (lb := lb) rfl trivial HG.out
    HST.out belowK_t (belowK_b (by simp; omega)) hB0 (fun _ => rfl)
    (ToldI w most) (ToldX w most 0) (ToldI.own w most _ (by simp; omega)) (ToldX.own w most 0 _ (by simp; omega))
    ⟨⟨_, b3, World.ownsRow_nil _ _ _ _, trivial⟩, ((b0.alloc _).alloc _).alloc _, (b1.alloc _).alloc _, b2.alloc _, hB0, Nat.zero_le _⟩
    (fun p => { tmps := #[.func (.func g) #[] lb, .int .i64 most, undef, .pointer (some ⟨w.heap.size, 0, none⟩), .pointer (some ⟨w.heap.size + 1, 0, none⟩), .pointer (some ⟨w.heap.size + 1 + 1, 0, none⟩), .pointer (some ⟨w.heap.size + 1 + 1 + 1, 0, none⟩),
      .int .i64 (p.1 : Int), .bool p.2, .func (.func g) #[] lb, .bool false, .func (.func g) #[] lb, .int .i64 (p.1 : Int), .bool p.2, undef, undef, undef, undef, undef, undef, undef, undef, undef, undef, undef, undef, undef], defers := [] }) ?assign ?body ?done ?stop
  case assign =>
    intro l x W K hK
    gi_wp2
    exact hK
  case body =>
    rintro l pre ⟨i, b⟩ W hI hlt
    have HI := Lib.hid hI
    obtain ⟨⟨v, hv, hrow, -⟩, hb1, hb2, hb3, hB, hle⟩ := hI
    obtain ⟨va, vc, rfl, hvc, hvm⟩ := ownsRow_slice hrow
    have hc6 := hv.cell
    have hc3 := hb1.cell
    have hc4 := hb2.cell
    have hf4 := hb2.frozen
    have hc5 := hb3.cell
    have hf5 := hb3.frozen
    by_cases hm : most ≤ pre.length
    · have hd1 : decide (most ≤ pre.length) = true := by simpa using hm
      gi_wp2
      exact ⟨KeepsFrom.refl _ _, .inl ⟨rfl, pre, (i, b), rfl, by omega, HI.out⟩⟩
    have hd1 : decide (most ≤ pre.length) = false := by simpa using hm
    by_cases hx : i = pre.length
    · have hd2 : ((i : Int) != (pre.length : Int)) = false := by rw [bne_eq_false_iff_eq]; omega
      have HX := Lib.hid hx
      clear hx
      have hlv := hv.lt
      gi_wp2_with (gi_at_builtin; refine wpListIn_append_own _ rfl _ _ 46 rfl (w.heap.size + 1 + 1 + 1) 4 i0 (.bool false) 1 1 Try.underlying46 hi hz0 hz1 hz2 rfl (by decide) _ _ _ rfl (hrow.alloc _) ⟨W.heap.size, 0, none⟩ 1 1 [.bool b] rfl rfl (cell_one_new _ _ _) (by simp [Value.oneCell']) (by unfold maxLen; omega) (by omega) (by simp; omega) ?_; intro v' w1 hown' hgrow _; obtain ⟨g', cap', rfl⟩ := ownsRow_succ hown'; obtain ⟨hv1, hv2, hr2, hk2, hb4⟩ := hv.appended (by decide) hrow (by omega) (Nat.le_refl _) hown' hgrow; have hc1 := hv1.cell; have hf1 := hv1.frozen)
      refine ⟨hk2.from _, hb4.mono (by omega), ⟨⟨_, hv2, by simpa using hr2, trivial⟩, Boxed.below hb1 hb4 (by omega), Boxed.below hb2 hb4 (by omega), Boxed.below hb3 hb4 (by omega), hB.trans (hb4.mono (by omega)), by simp; omega⟩⟩
    · have hd2 : ((i : Int) != (pre.length : Int)) = true := by rw [bne_iff_ne]; omega
      have HX := Lib.hid hx
      clear hx
      gi_wp2
      exact ⟨((KeepsOthers.setCell _ _ _).trans (KeepsOthers.setCell _ _ _)).from _, .inr ⟨rfl, pre, (i, b), rfl, HX.out⟩⟩
  case done =>
    rintro D ys W hD rfl hI hK
    obtain ⟨⟨v, hv, hrow, -⟩, hb1, hb2, hb3, hB, hle⟩ := hI
    rw [pairs_length] at hle hrow
    rw [pairs_take bs bs.length (Nat.le_refl _), List.take_length] at hrow
    have hbt : bs.take most = bs := List.take_of_length_le hle
    have hbl : bs.length = (bs.take most).length := by rw [hbt]
    rw [hbl] at hrow
    rw [show bs.map Value.bool = (bs.take most).map Value.bool by rw [hbt]] at hrow
    clear hbt hbl
    rw [← HT.out] at hrow
    have hc6 := hv.cell
    have hc4 := hb2.cell
    have hf4 := hb2.frozen
    have hc5 := hb3.cell
    have hf5 := hb3.frozen
    have HB := Lib.hid hB
    have HKD := Lib.hid hK
    have HV := Lib.hid hv
    have HR := Lib.hid hrow
    have HB2 := Lib.hid hb2
    have HB3 := Lib.hid hb3
    clear hB hK hv hrow hb1 hb2 hb3
    obtain ⟨va, vc, rfl, hvc, hvm⟩ := ownsRow_slice HR.out
    gi_wp2
    have hD2 : w.heap.size + 1 + 1 + 1 < D := by simp at hD; omega
    have hs1 := HB2.out.set (.slice va L.length vc)
    have hs2 := (HB3.out.kept (grownBy_setCell' W (w.heap.size + 1) (.slice va L.length vc)) (by simp)).set (.bool true)
    have hs3 := hs1.kept (grownBy_setCell' _ (w.heap.size + 1 + 1) (.bool true)) (by simp)
    have hr1 := HR.out.kept (grownBy_setCell' W (w.heap.size + 1) (.slice va L.length vc)) (.inr fun e => by have := (World.ownsRow.lt HR.out _ e).1; omega)
    have hr2 := hr1.kept (grownBy_setCell' _ (w.heap.size + 1 + 1) (.bool true)) (.inr fun e => by have := (World.ownsRow.lt hr1 _ e).1; omega)
    have hK' := ((KeepsOthers.setCell W ⟨w.heap.size + 1, 0, none⟩ (.slice va L.length vc)).trans (KeepsOthers.setCell _ ⟨w.heap.size + 1 + 1, 0, none⟩ (.bool true))).same D _ HKD.out rfl
    refine ⟨by simp, .inl ⟨_, _, rfl, run_takeDeferred hK', ?_⟩⟩
    have hg := grownBy_putObj' ((W.setCell ⟨w.heap.size + 1, 0, none⟩ (.slice va L.length vc)).setCell ⟨w.heap.size + 1 + 1, 0, none⟩ (.bool true)) D (.deferred none)
    have hq4 := (hs3.kept hg (by simp; omega)).cell
    have hq5 := (hs2.kept hg (by simp; omega)).cell
    have hq6 := ownsRow_putObj hr2 (.deferred none) hK' rfl
    refine ⟨.tuple #[.slice va L.length vc, .bool true], ?_, _, rfl, Own.mono (base := w.heap.size + 1 + 1 + 1) ?_ (by omega), ?_⟩
    · simp [results, Try.results35, go_sem, hq4, hq5]
    · unfold Own
      rw [List.length_map]
      exact hq6
    · exact ((HB.out.setCell (p := ⟨w.heap.size + 1, 0, none⟩) (by simp only; omega) _).setCell (p := ⟨w.heap.size + 1 + 1, 0, none⟩) (by simp only; omega) _).trans (belowK_b (w := w) (Nat.le_refl _) _ D _ _ (by omega) hK' rfl rfl)
  case stop =>
    rintro D c pre W hD ⟨k, hk, rfl⟩ hX hK
    have hk1 : ∀ (ini : List (Nat × Bool)) (x : Nat × Bool), pairs bs k = ini ++ [x] → ∃ k', k = k' + 1 ∧ ini = pairs bs k' ∧ x.1 = k' := by
      intro ini x e1
      cases k with
      | zero => simp [pairs] at e1
      | succ k' =>
        rw [pairs_succ] at e1
        obtain ⟨e2, e3⟩ := List.append_inj' e1 rfl
        exact ⟨k', rfl, e2.symm, by simp at e3; rw [← e3]⟩
    rcases hX with ⟨rfl, ini, x, e1, e2, hI⟩ | ⟨rfl, ini, x, e1, e2⟩
    · obtain ⟨k', rfl, rfl, -⟩ := hk1 ini x e1
      clear hk1 e1
      skip
      obtain ⟨⟨v, hv, hrow, -⟩, hb1, hb2, hb3, hB, hle⟩ := hI
      rw [pairs_length] at hle hrow e2
      rw [pairs_take bs k' (by omega), e2] at hrow
      have hbl : (bs.take most).length = most := by rw [List.length_take]; omega
      rw [← hbl] at hrow
      rw [show bs.take (bs.take most).length = bs.take most by rw [hbl]] at hrow
      clear hbl e2
      rw [← HT.out] at hrow
      have hc6 := hv.cell
      have hc4 := hb2.cell
      have hf4 := hb2.frozen
      have hc5 := hb3.cell
      have hf5 := hb3.frozen
      have HB := Lib.hid hB
      have HKD := Lib.hid hK
      have HV := Lib.hid hv
      have HR := Lib.hid hrow
      have HB2 := Lib.hid hb2
      have HB3 := Lib.hid hb3
      clear hB hK hv hrow hb1 hb2 hb3
      obtain ⟨va, vc, rfl, hvc, hvm⟩ := ownsRow_slice HR.out
      gi_wp2
      have hD2 : w.heap.size + 1 + 1 + 1 < D := by simp at hD; omega
      have hs1 := HB2.out.set (.slice va L.length vc)
      have hs2 := (HB3.out.kept (grownBy_setCell' W (w.heap.size + 1) (.slice va L.length vc)) (by simp)).set (.bool true)
      have hs3 := hs1.kept (grownBy_setCell' _ (w.heap.size + 1 + 1) (.bool true)) (by simp)
      have hr1 := HR.out.kept (grownBy_setCell' W (w.heap.size + 1) (.slice va L.length vc)) (.inr fun e => by have := (World.ownsRow.lt HR.out _ e).1; omega)
      have hr2 := hr1.kept (grownBy_setCell' _ (w.heap.size + 1 + 1) (.bool true)) (.inr fun e => by have := (World.ownsRow.lt hr1 _ e).1; omega)
      have hK' := ((KeepsOthers.setCell W ⟨w.heap.size + 1, 0, none⟩ (.slice va L.length vc)).trans (KeepsOthers.setCell _ ⟨w.heap.size + 1 + 1, 0, none⟩ (.bool true))).same D _ HKD.out rfl
      refine ⟨by simp, .inl ⟨_, _, rfl, run_takeDeferred hK', ?_⟩⟩
      have hg := grownBy_putObj' ((W.setCell ⟨w.heap.size + 1, 0, none⟩ (.slice va L.length vc)).setCell ⟨w.heap.size + 1 + 1, 0, none⟩ (.bool true)) D (.deferred none)
      have hq4 := (hs3.kept hg (by simp; omega)).cell
      have hq5 := (hs2.kept hg (by simp; omega)).cell
      have hq6 := ownsRow_putObj hr2 (.deferred none) hK' rfl
      refine ⟨.tuple #[.slice va L.length vc, .bool true], ?_, _, rfl, Own.mono (base := w.heap.size + 1 + 1 + 1) ?_ (by omega), ?_⟩
      · simp [results, Try.results35, go_sem, hq4, hq5]
      · unfold Own
        rw [List.length_map]
        exact hq6
      · exact ((HB.out.setCell (p := ⟨w.heap.size + 1, 0, none⟩) (by simp only; omega) _).setCell (p := ⟨w.heap.size + 1 + 1, 0, none⟩) (by simp only; omega) _).trans (belowK_b (w := w) (Nat.le_refl _) _ D _ _ (by omega) hK' rfl rfl)
    · obtain ⟨k', rfl, rfl, e4⟩ := hk1 ini x e1
      rw [pairs_length] at e2
      exact absurd e4 e2
end Go.Proofs.Ytkbdpdcandpfdaa
