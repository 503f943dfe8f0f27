/- The walks of layer 3, 5: pairs on both sides. -/
import Derived.Test.YtdjbalaicfienaaP5
import Derived.Test.YtdjbalaicfienaaW3
import Derived.Test.YtdjbalaicfienaaW20
import Derived.Test.YtdjbalaicfienaaLater
import Derived.Test.YtdjbalaicfienaaQTail2
import Derived.Deep.RegionHeld3
namespace Go.Proofs.Ytdjbalaicfienaa
open Go.RowKit
set_option linter.unusedVariables false
set_option linter.unusedSimpArgs false
/-- the first j pairs of bits as samples -/
def pairsTo (bs : List Bool) (amp : Int) (j : Nat) : List Smp := (List.range j).map fun t => twoS (bs.getD (2 * t) false) (bs.getD (2 * t + 1) false) amp
theorem pairsTo_len (bs : List Bool) (amp : Int) (j : Nat) : (pairsTo bs amp j).length = j := by simp [pairsTo]
theorem pairsTo_succ (bs : List Bool) (amp : Int) (j : Nat) : pairsTo bs amp (j + 1) = pairsTo bs amp j ++ [twoS (bs.getD (2 * j) false) (bs.getD (2 * j + 1) false) amp] := by
  simp [pairsTo, List.range_succ]
theorem getTo_two (bs : List Bool) (j : Nat) (h : j + 2 ≤ bs.length) : getTo bs j 2 = 2 * (bs.getD j false).toNat + (bs.getD (j + 1) false).toNat := by
  rw [getTo_succ bs j 1 (by omega), getTo_succ bs j 0 (by omega), getTo_zero]
  simp
theorem getTo_one (bs : List Bool) (j : Nat) (h : j + 1 ≤ bs.length) : getTo bs j 1 = (bs.getD j false).toNat := by
  rw [getTo_succ bs j 0 (by omega), getTo_zero]
  simp
theorem OwnP.notBox {w : World} {base X t : Nat} {v : Value} {c : Array Value} {xs : List Smp} (h : OwnP w base v xs) (hX : Box w X t c) (ht : t ≠ 63) : v.ownBlock ≠ some X := by
  intro hk
  rcases h.2 with ⟨hn, -⟩ | ⟨g, cap, cur, rfl, hbg, hg, rest⟩
  · rw [hn] at hk; cases hk
  · simp only [Value.ownBlock, Option.some.injEq] at hk
    subst hk
    unfold Box at hX
    rw [hX] at hg
    simp only [Option.some.injEq, Obj.cells.injEq] at hg
    exact ht hg.2.1
theorem pt_two (b0 b1 : Bool) (amp : Int) : amp * (ptOf (2 * b0.toNat + b1.toNat)).i - 0 * (ptOf (2 * b0.toNat + b1.toNat)).q = (twoS b0 b1 amp).i ∧ amp * (ptOf (2 * b0.toNat + b1.toNat)).q + 0 * (ptOf (2 * b0.toNat + b1.toNat)).i = (twoS b0 b1 amp).q := by
  cases b0 <;> cases b1 <;> simp [ptOf, twoS]
theorem pt_abs (t : Nat) : (ptOf t).i.natAbs ≤ 1 ∧ (ptOf t).q.natAbs ≤ 1 := by
  unfold ptOf
  constructor <;> (simp only; split <;> decide)
theorem twoS_abs (b0 b1 : Bool) (amp : Int) : (twoS b0 b1 amp).i.natAbs = amp.natAbs ∧ (twoS b0 b1 amp).q.natAbs = amp.natAbs := by
  cases b0 <;> cases b1 <;> simp [twoS]
set_option maxRecDepth 100000 in
set_option maxHeartbeats 4000000 in
theorem pairs_any (v : Value) (xs : List Smp) (base : Nat) (x : RB) (bs : List Bool) (ca cb : Nat) (amp : Int) (w : World) (hown : OwnP w base v xs) (hx : x.Is w bs) (hfar : 0 < x.len → ∀ a, x.a = some a → v.ownBlock ≠ some a.block)
    (fa : FInt ca amp) (fb : FInt cb 0) (ham : amp.natAbs ≤ 65536) (hxs : xs.length ≤ 100000) (hbase : base ≤ w.heap.size) :
    Calls Try.prog 74 #[v, x.val, .complex .f64 ca cb] w fun e w' => ∃ v', e = .returned v' ∧ OwnP w' base v' (xs ++ pairsTo bs amp ((bs.length + 1) / 2)) ∧ Gr w w' v v' := by
  have HX := Lib.hid hx
  have HFAR := Lib.hid hfar
  have HFA := Lib.hid fa
  have HFB := Lib.hid fb
  have hmost := hx.most
  have hin := Lib.hid hx.isIn
  obtain ⟨a, cap, rfl⟩ := hx.shape
  have HVL := Lib.hid (fun k hk => (hown.lt k hk).2)
  have HO0 := Lib.hid (hown.keeps ((Keeps.refl w).alloc (.cells #[.int .i64 bs.length, .slice a ((bs.length + 7) / 8) cap] 26)))
  clear hx hfar fa fb hown
  have HZ := Lib.hid (Box.new w 26 #[.int .i64 bs.length, .slice a ((bs.length + 7) / 8) cap])
  have HG := Lib.hid (((Keeps.refl w).alloc (.cells #[.int .i64 bs.length, .slice a ((bs.length + 7) / 8) cap] 26)).gr v)
  show Calls Try.prog 74 #[v, .agg #[.int .i64 bs.length, .slice a ((bs.length + 7) / 8) cap], .complex .f64 ca cb] w _
  go_enter Try.func74, Try.ntmps74
  go_wp2_with fail
  go_loopw [0, 7] (fun u i wr => ∃ k : Nat, k ≤ (bs.length + 1) / 2 ∧ i = .int .i64 (2 * k : Nat) ∧ Hid (OwnP wr base u (xs ++ pairsTo bs amp k)) ∧ Hid (Box wr w.heap.size 26 #[.int .i64 bs.length, .slice a ((bs.length + 7) / 8) cap]) ∧ Hid (Gr w wr v u)) (fun _ i _ => bs.length + 2 - (intOf i).toNat)
  case atStart => exact ⟨0, by omega, rfl, by have h : xs ++ pairsTo bs amp 0 = xs := by simp [pairsTo]
                                              rw [h]; exact HO0, HZ, HG⟩
  case round =>
    clear HZ HG HO0
    obtain ⟨k, hk, rfl, HO, HZ, HG⟩ := hrel
    have z0 := HZ.out.cell 0 _ rfl
    have z1 := HZ.out.cell 1 _ rfl
    have zl := HZ.out.lt
    obtain ⟨t, ht⟩ : ∃ t, t = 2 * k := ⟨_, rfl⟩
    rw [← ht]
    have HT := Lib.hid ht
    by_cases hlt : t < bs.length
    · have HXI : Hid (RB.Is ⟨bs.length, a, (bs.length + 7) / 8, cap, pack bs⟩ wr bs) := Lib.hid (HX.out.gr HG.out HFAR.out)
      have HS := Lib.hid (pairsTo_succ bs amp k)
      rw [← ht] at HS
      have hln : (xs ++ pairsTo bs amp k).length = xs.length + k := by rw [List.length_append, pairsTo_len]
      have hk2 : k ≤ 4096 := by omega
      have hk3 : k + 1 ≤ (bs.length + 1) / 2 := by omega
      clear ht hk
      have d0 : decide ((t : Int) < (bs.length : Int)) = true := by simp; omega
      by_cases h2 : t + 1 < bs.length
      · skip
        have hg2 := getTo_two bs t (by omega)
        obtain ⟨b0, hb0⟩ : ∃ b, b = bs.getD t false := ⟨_, rfl⟩
        obtain ⟨b1, hb1⟩ : ∃ b, b = bs.getD (t + 1) false := ⟨_, rfl⟩
        rw [← hb0, ← hb1] at hg2 HS
        clear hb0 hb1
        obtain ⟨PTI, PTQ⟩ := pt_two b0 b1 amp
        have hpa := pt_abs (2 * b0.toNat + b1.toNat)
        have hta := twoS_abs b0 b1 amp
        obtain ⟨S, hS⟩ : ∃ S, S = twoS b0 b1 amp := ⟨_, rfl⟩
        rw [← hS] at HS PTI PTQ hta
        have HS2 := HS
        clear HS hS
        obtain ⟨T, hT⟩ : ∃ T, T = 2 * b0.toNat + b1.toNat := ⟨_, rfl⟩
        rw [← hT] at PTI PTQ hpa
        have hT4 : T < 4 := by have := Bool.toNat_le b0; have := Bool.toNat_le b1; omega
        rw [← hT] at hg2
        have hw : IntKind.u64.wrap (T : Int) = T := by simp [IntKind.wrap, IntKind.bits, IntKind.signed]; omega
        clear hT
        have hmin : (if (bs.length : Int) - (t : Int) < 2 then (bs.length : Int) - (t : Int) else 2) = 2 := by rw [if_neg]; omega
        go_wp2_with fail
        (with_reducible refine (get_ok ⟨bs.length, a, (bs.length + 7) / 8, cap, pack bs⟩ bs t 2 _ _ _ (by omega) (by omega) (by exact HXI.out) (by decide) (by omega)).mono ?_)
        rw [hg2]
        rintro e w2 ⟨rfl, hk2⟩
        clear hg2 hmin
        have HK2 := Lib.hid hk2
        clear hk2
        replace HO := Lib.hid (HO.out.keeps HK2.out)
        replace HG := Lib.hid (HG.out.trans (HK2.out.gr u0))
        replace HZ := Lib.hid (HZ.out.keeps HK2.out)
        clear z0 z1 zl HK2 HXI
        go_wp2_with fail
        clear hw
        (with_reducible refine (point_any _ _ (by omega)).mono ?_)
        rintro e w3 ⟨pa, pb, rfl, ga, gb, rfl⟩
        obtain ⟨re, im, k1, k2, e1⟩ := cmul_int HFA.out HFB.out ga gb 65536 1 ham (by decide) (by omega) (by omega) (by decide)
        rw [PTI] at k1
        rw [PTQ] at k2
        have e2 := e1 Try.prog 95
        have K1 := Lib.hid k1
        have K2 := Lib.hid k2
        clear k1 k2 e1 ga gb
        go_wp2_with fail
        (with_reducible refine (sample_any re im S _ K1.out K2.out (by omega) (by omega)).mono ?_)
        rintro e w4 ⟨rfl, hk4⟩
        have HO4 := Lib.hid (HO.out.keeps hk4)
        have HG4 := Lib.hid (HG.out.trans (hk4.gr u0))
        have HZ4 := Lib.hid (HZ.out.keeps hk4)
        have hsz4 := HG4.out.size
        clear hk4 HO HG HZ K1 K2 e2
        have HSI := HS2
        clear HS2
        obtain ⟨ti, tq⟩ := S
        go_wp2_with (refine wpList_joinP rfl _ _ rfl base _ _ rfl (by exact HO4.out.keeps ((Keeps.refl _).alloc _)) _ 1 1 [⟨ti, tq⟩] rfl (by exact Box.smp (s := ⟨ti, tq⟩) (Box.new _ _ _)) (by rw [hln]; omega) (by simp; omega) ?hmain)
        case hmain =>
          intro v' w5 hown hg
          rw [← HSI.out] at hown
          have HO5 := Lib.hid hown
          have HG5 : Hid (Gr w w5 v v') := Lib.hid (HG4.out.trans (((Keeps.refl _).alloc _).gr u0 |>.trans hg))
          have HZ5 := Lib.hid ((HZ4.out.next (.cells #[.int .i64 ti, .int .i64 tq] 63)).gr hg ((HO4.out.keeps ((Keeps.refl _).alloc (.cells #[.int .i64 ti, .int .i64 tq] 63))).notBox (HZ4.out.next (.cells #[.int .i64 ti, .int .i64 tq] 63)) (by decide)))
          clear hown hg HO4 HG4 HZ4 HSI
          have hm1 : 2 * (k + 1) = t + 2 := by have := HT.out; omega
          have z0 := HZ5.out.cell 0 _ rfl
          go_wp2_with fail
          go_roundw
          case rel => exact ⟨k + 1, by omega, by rw [hm1]; go_num, HO5, HZ5, HG5⟩
          case measure => simp [intOf]; omega
      · skip
        have hg2 := getTo_one bs t (by omega)
        obtain ⟨b0, hb0⟩ : ∃ b, b = bs.getD t false := ⟨_, rfl⟩
        obtain ⟨b1, hb1⟩ : ∃ b, b = bs.getD (t + 1) false := ⟨_, rfl⟩
        have hb1f : b1 = false := by rw [hb1, List.getD_eq_getElem?_getD, List.getElem?_eq_none (by omega)]; rfl
        rw [← hb0] at hg2
        rw [← hb0, ← hb1] at HS
        clear hb0 hb1
        subst hb1f
        obtain ⟨PTI, PTQ⟩ := pt_two b0 false amp
        have hpa := pt_abs (2 * b0.toNat + false.toNat)
        have hta := twoS_abs b0 false amp
        obtain ⟨S, hS⟩ : ∃ S, S = twoS b0 false amp := ⟨_, rfl⟩
        rw [← hS] at HS PTI PTQ hta
        have HS2 := HS
        clear HS hS
        obtain ⟨T, hT⟩ : ∃ T, T = 2 * b0.toNat + false.toNat := ⟨_, rfl⟩
        rw [← hT] at PTI PTQ hpa
        have hT4 : T < 4 := by have := Bool.toNat_le b0; have := Bool.toNat_le false; omega
        have hw : IntKind.u64.wrap ((b0.toNat : Int) * 2) = T := by
          have := Bool.toNat_le b0
          simp [IntKind.wrap, IntKind.bits, IntKind.signed]
          simp at hT
          omega
        clear hT
        have hmin : (if (bs.length : Int) - (t : Int) < 2 then (bs.length : Int) - (t : Int) else 2) = 1 := by rw [if_pos] <;> omega
        go_wp2_with fail
        (with_reducible refine (get_ok ⟨bs.length, a, (bs.length + 7) / 8, cap, pack bs⟩ bs t 1 _ _ _ (by omega) (by omega) (by exact HXI.out) (by decide) (by omega)).mono ?_)
        rw [hg2]
        rintro e w2 ⟨rfl, hk2⟩
        clear hg2 hmin
        have HK2 := Lib.hid hk2
        clear hk2
        replace HO := Lib.hid (HO.out.keeps HK2.out)
        replace HG := Lib.hid (HG.out.trans (HK2.out.gr u0))
        replace HZ := Lib.hid (HZ.out.keeps HK2.out)
        clear z0 z1 zl HK2 HXI
        go_wp2_with fail
        clear hw
        (with_reducible refine (point_any _ _ (by omega)).mono ?_)
        rintro e w3 ⟨pa, pb, rfl, ga, gb, rfl⟩
        obtain ⟨re, im, k1, k2, e1⟩ := cmul_int HFA.out HFB.out ga gb 65536 1 ham (by decide) (by omega) (by omega) (by decide)
        rw [PTI] at k1
        rw [PTQ] at k2
        have e2 := e1 Try.prog 95
        have K1 := Lib.hid k1
        have K2 := Lib.hid k2
        clear k1 k2 e1 ga gb
        go_wp2_with fail
        (with_reducible refine (sample_any re im S _ K1.out K2.out (by omega) (by omega)).mono ?_)
        rintro e w4 ⟨rfl, hk4⟩
        have HO4 := Lib.hid (HO.out.keeps hk4)
        have HG4 := Lib.hid (HG.out.trans (hk4.gr u0))
        have HZ4 := Lib.hid (HZ.out.keeps hk4)
        have hsz4 := HG4.out.size
        clear hk4 HO HG HZ K1 K2 e2
        have HSI := HS2
        clear HS2
        obtain ⟨ti, tq⟩ := S
        go_wp2_with (refine wpList_joinP rfl _ _ rfl base _ _ rfl (by exact HO4.out.keeps ((Keeps.refl _).alloc _)) _ 1 1 [⟨ti, tq⟩] rfl (by exact Box.smp (s := ⟨ti, tq⟩) (Box.new _ _ _)) (by rw [hln]; omega) (by simp; omega) ?hmain)
        case hmain =>
          intro v' w5 hown hg
          rw [← HSI.out] at hown
          have HO5 := Lib.hid hown
          have HG5 : Hid (Gr w w5 v v') := Lib.hid (HG4.out.trans (((Keeps.refl _).alloc _).gr u0 |>.trans hg))
          have HZ5 := Lib.hid ((HZ4.out.next (.cells #[.int .i64 ti, .int .i64 tq] 63)).gr hg ((HO4.out.keeps ((Keeps.refl _).alloc (.cells #[.int .i64 ti, .int .i64 tq] 63))).notBox (HZ4.out.next (.cells #[.int .i64 ti, .int .i64 tq] 63)) (by decide)))
          clear hown hg HO4 HG4 HZ4 HSI
          have hm1 : 2 * (k + 1) = t + 2 := by have := HT.out; omega
          have z0 := HZ5.out.cell 0 _ rfl
          go_wp2_with fail
          go_roundw
          case rel => exact ⟨k + 1, by omega, by rw [hm1]; go_num, HO5, HZ5, HG5⟩
          case measure => simp [intOf]; omega
    · have hkk : k = (bs.length + 1) / 2 := by omega
      subst hkk
      have d0 : decide ((t : Int) < (bs.length : Int)) = false := by simp; omega
      clear ht
      go_wp2_with fail
      go_ret
      exact ⟨_, rfl, HO.out, HG.out⟩
/-- 'l = append(l, xs...)', of samples, as a step of a region -/
theorem step_joinP {w : World} {ops : Array Oper} {o : Oper} {a : Act} {K : Act → World → Prop} {Q : Exit → Act → World → Prop} {E : Prop} (hgd : o.guard = none) (s x : Operand)
    (ho : o.op = .call { callee := .builtin .append, args := #[s, x], argTypes := #[52, 52] })
    (base : Nat) (v : Value) (xs : List Smp) (hs : a.eval s = v) (hown : OwnP w base v xs) (ad : Option Addr) (m c : Nat) (ys : List Smp) (hx : a.eval x = .slice ad m c) (hrow : SRow w ad m c ys)
    (hlen : xs.length + m ≤ 1000000) (hbase : base ≤ w.heap.size)
    (h : ∀ v' w', OwnP w' base v' (xs ++ ys) → Gr w w' v v' → K (a.put o.dst v') w') :
    if Region.wanted o (yielded ops a.tmps) = true then Oper.wp Try.prog o a w K Q else E := by
  have hw : Region.wanted o (yielded ops a.tmps) = true := by simp [Region.wanted, hgd]
  rw [if_pos hw]
  obtain ⟨i, hi, hz0, hz1, hz2⟩ := info_parts infoSmp
  have hl := hrow.len
  have key : ∀ (y : Addr), ad = some y → Oper.wp Try.prog o a w K Q := by
    intro y hy
    subst hy
    obtain ⟨v', w', hr, hown', hg, -, hat⟩ := run_append_own_at (P := Try.prog) w base 52 o.type 63 i _ 2 16 Try.underlying52 hi hz0 hz1 hz2 rfl (by decide) v xs.length (sCells xs) hown y m c (sCells ys) (by rw [sCells_length, hl]) (fun j u hj => by
      have hjl : j < m * 2 := by
        have := (List.getElem?_eq_some_iff.1 hj).1
        rw [sCells_length, hl] at this; exact this
      obtain ⟨b, off, hab, hc⟩ : ∃ b off, y = ⟨b, off, none⟩ ∧ w.cell? ⟨b, off + j, none⟩ = some u := by
        obtain ⟨b, off, hab, hc0, hc1⟩ := hrow.cell (j / 2) (by omega)
        cases hab
        refine ⟨b, off, rfl, ?_⟩
        rcases Nat.mod_two_eq_zero_or_one j with h0 | h0
        · have e : j = j / 2 * 2 + 0 := by omega
          rw [e, sCells_get ys (j / 2) 0 (by omega) (by decide)] at hj
          rw [e, Nat.add_zero, hc0, ← hj]; rfl
        · have e : j = j / 2 * 2 + 1 := by omega
          rw [e, sCells_get ys (j / 2) 1 (by omega) (by decide)] at hj
          rw [e, ← Nat.add_assoc, hc1, ← hj]; rfl
      subst hab
      by_cases hj0 : j = 0
      · subst hj0; simpa [Addr.add] using hc
      · simpa [Addr.add, hj0] using hc) (sCells_one ys) (by unfold maxLen; omega) (by omega) hbase
    unfold Oper.wp execOp
    simp only [ho, resolve, invoke, builtin, Sem.run_bind, Sem.run_pure, Result.andThen_ok, List.map_toArray, List.map_cons, List.map_nil, hs, hx, hr]
    refine h v' w' ?_ (Gr.grown hg hat)
    unfold OwnP
    rw [List.length_append, hl, sCells_app]; exact hown'
  cases ad with
  | some y => exact key y rfl
  | none =>
    have h0 : m = 0 := by
      rcases Nat.eq_zero_or_pos m with h0 | h0
      · exact h0
      · obtain ⟨b, off, hab, -⟩ := hrow.cell 0 (by omega)
        cases hab
    subst h0
    obtain rfl : ys = [] := List.eq_nil_of_length_eq_zero hl
    have hrun : (Builtin.append_ #[52, 52] o.type #[v, .slice none 0 c]).run Try.prog w = .ok v w := by
      rcases hown.2 with ⟨rfl, hn⟩ | ⟨g, cap, cur, rfl, _, _, hnc, _⟩
      · simp [Builtin.append_, run_underlying Try.underlying52, sizeOf, typeInfo, hi, Builtin.lenOf, Builtin.firstCells]
      · simp [Builtin.append_, run_underlying Try.underlying52, sizeOf, typeInfo, hi, Builtin.lenOf, Builtin.firstCells, hnc, storeCells]
    unfold Oper.wp execOp
    simp only [ho, resolve, invoke, builtin, Sem.run_bind, Sem.run_pure, Result.andThen_ok, List.map_toArray, List.map_cons, List.map_nil, hs, hx, hrun]
    exact h v w (by simpa using hown) (Gr.refl _ _)
set_option maxRecDepth 100000 in
set_option maxHeartbeats 4000000 in
theorem rpairs_any (va : Option Addr) (cap : Nat) (bs : List Bool) (amp : Int) (w : World) (hl : Bools w (.slice va bs.length cap) bs) (ham : amp.natAbs ≤ 65536) (hn : bs.length ≤ 5000) :
    Calls Try.prog 75 #[.slice va bs.length cap, .int .i64 amp] w fun e w' => ∃ v, e = .returned v ∧ OwnP w' w.heap.size v (pairsTo bs amp ((bs.length + 1) / 2)) ∧ Keeps w w' := by
  obtain ⟨va', cap', he, hc1, hc2, hrow⟩ := hl.shape
  simp only [Value.slice.injEq] at he
  obtain ⟨rfl, -, rfl⟩ := he
  have HR := Lib.hid hrow
  clear hl hrow
  go_enter Try.func75, Try.ntmps75
  go_wp2_with fail
  go_loopw [5, 6] (fun u i wr => ∃ k : Nat, k ≤ (bs.length + 1) / 2 ∧ i = .int .i64 (2 * k : Nat) ∧ Hid (OwnP wr w.heap.size u (pairsTo bs amp k)) ∧ Hid (Keeps w wr)) (fun _ i _ => bs.length + 2 - (intOf i).toNat)
  case atStart => exact ⟨0, by omega, rfl, OwnP.nil _ _, Keeps.refl w⟩
  case round =>
    obtain ⟨k, hk, rfl, HO, HK⟩ := hrel
    obtain ⟨t, ht⟩ : ∃ t, t = 2 * k := ⟨_, rfl⟩
    rw [← ht]
    have HT := Lib.hid ht
    by_cases hlt : t < bs.length
    · obtain ⟨b, off, rfl, hcell0, hbl⟩ := HR.out.addr (by omega)
      have hcell : ∀ i, i < bs.length → w.cell? ⟨b, off + i, none⟩ = some (.bool (bs.getD i false)) := fun i hi => by
        refine (hcell0 i hi).trans ?_
        simp [List.getElem?_map, List.getElem?_eq_getElem hi, List.getD_eq_getElem?_getD]
      clear hcell0
      have HS := Lib.hid (pairsTo_succ bs amp k)
      rw [← ht] at HS
      have hln := pairsTo_len bs amp k
      have hk2 : k ≤ 4096 := by omega
      have hk3 : k + 1 ≤ (bs.length + 1) / 2 := by omega
      clear ht hk
      have d0 : decide ((t : Int) < (bs.length : Int)) = true := by simp; omega
      have c0' := hcell t hlt
      obtain ⟨b0, hb0⟩ : ∃ b, b = bs.getD t false := ⟨_, rfl⟩
      obtain ⟨b1, hb1⟩ : ∃ b, b = bs.getD (t + 1) false := ⟨_, rfl⟩
      rw [← hb0] at c0'
      rw [← hb0, ← hb1] at HS
      have c0 : ∀ q : Later wr, q.w.cell? ⟨b, off + t, none⟩ = some (.bool b0) := fun q => q.keeps.later (HK.out.later c0')
      clear hb0 c0'
      by_cases h2 : t + 1 < bs.length
      · skip
        have c1' := hcell (t + 1) h2
        have c1 : ∀ q : Later wr, q.w.cell? ⟨b, off + (t + 1), none⟩ = some (.bool b1) := fun q => by rw [hb1]; exact q.keeps.later (HK.out.later c1')
        clear c1'
        have d1 : decide ((t : Int) + 1 < (bs.length : Int)) = true := by simp; omega
        clear hb1
        clear hcell
        have hw1 : IntKind.i64.wrap ((t : Int) + 1) = t + 1 := wrap_small (by omega)
        go_wp2_with fail
        refine wp_region_move_tail (fun w' => ∃ q : Later wr, w' = q.w) 19 u5 (by kernel_rfl) (by kernel_rfl) ⟨⟨wr.drew, (Keeps.refl wr).drew⟩, rfl⟩ (fun _ _ _ h => h) (Or.inl ⟨by rfl, fun w => by rfl⟩) ?_
        dsimp only [List.take, List.drop]
        simp only [Act.put, List.setIfInBounds_toArray, List.set_cons_zero, List.set_cons_succ]
        repeat (go_big_quiet_step (first | (go_at_call 98; with_reducible exact Later.calls _ (two_any b0 b1 amp _ (by omega)))))
        refine wpQuiet_nil ?_
        rintro _ ⟨q, rfl⟩
        obtain ⟨wq, hwq⟩ := q
        simp only
        replace HO := Lib.hid (HO.out.keeps hwq)
        replace HK := Lib.hid (HK.out.trans hwq)
        obtain ⟨S, hS⟩ : ∃ S, S = twoS b0 b1 amp := ⟨_, rfl⟩
        rw [← hS] at HS ⊢
        have hsz := HK.out.size
        clear hS c0 c1 hwq
        obtain ⟨ti, tq⟩ := S
        go_wp2_with (refine wpList_joinP rfl _ _ rfl w.heap.size _ _ rfl (by exact HO.out.keeps ((Keeps.refl _).alloc _)) _ 1 1 [⟨ti, tq⟩] rfl (by exact Box.smp (s := ⟨ti, tq⟩) (Box.new _ _ _)) (by rw [hln]; omega) (by simp; omega) ?hmain)
        case hmain =>
          intro v' w5 hown hg
          rw [← HS.out] at hown
          have HO5 := Lib.hid hown
          have HK5 : Hid (Keeps w w5) := Lib.hid (hg.keeps (HK.out.alloc _) (fun k hk => (HO.out.lt k hk).1))
          have hm1 : 2 * (k + 1) = t + 2 := by have := HT.out; omega
          clear hown hg HO HK HS
          go_wp2_with fail
          go_roundw
          case rel => exact ⟨k + 1, by omega, by rw [hm1]; go_num, HO5, HK5⟩
          case measure => simp [intOf]; omega
      · skip
        have hb1f : b1 = false := by rw [hb1, List.getD_eq_getElem?_getD, List.getElem?_eq_none (by omega)]; rfl
        have d1 : decide ((t : Int) + 1 < (bs.length : Int)) = false := by simp; omega
        clear hb1
        subst hb1f
        skip
        clear hcell
        have hw1 : IntKind.i64.wrap ((t : Int) + 1) = t + 1 := wrap_small (by omega)
        go_wp2_with fail
        refine wp_region_move_tail (fun w' => ∃ q : Later wr, w' = q.w) 19 u5 (by kernel_rfl) (by kernel_rfl) ⟨⟨wr.drew, (Keeps.refl wr).drew⟩, rfl⟩ (fun _ _ _ h => h) (Or.inl ⟨by rfl, fun w => by rfl⟩) ?_
        dsimp only [List.take, List.drop]
        simp only [Act.put, List.setIfInBounds_toArray, List.set_cons_zero, List.set_cons_succ]
        repeat (go_big_quiet_step (first | (go_at_call 98; with_reducible exact Later.calls _ (two_any b0 false amp _ (by omega)))))
        refine wpQuiet_nil ?_
        rintro _ ⟨q, rfl⟩
        obtain ⟨wq, hwq⟩ := q
        simp only
        replace HO := Lib.hid (HO.out.keeps hwq)
        replace HK := Lib.hid (HK.out.trans hwq)
        obtain ⟨S, hS⟩ : ∃ S, S = twoS b0 false amp := ⟨_, rfl⟩
        rw [← hS] at HS ⊢
        have hsz := HK.out.size
        clear hS c0  hwq
        obtain ⟨ti, tq⟩ := S
        go_wp2_with (refine wpList_joinP rfl _ _ rfl w.heap.size _ _ rfl (by exact HO.out.keeps ((Keeps.refl _).alloc _)) _ 1 1 [⟨ti, tq⟩] rfl (by exact Box.smp (s := ⟨ti, tq⟩) (Box.new _ _ _)) (by rw [hln]; omega) (by simp; omega) ?hmain)
        case hmain =>
          intro v' w5 hown hg
          rw [← HS.out] at hown
          have HO5 := Lib.hid hown
          have HK5 : Hid (Keeps w w5) := Lib.hid (hg.keeps (HK.out.alloc _) (fun k hk => (HO.out.lt k hk).1))
          have hm1 : 2 * (k + 1) = t + 2 := by have := HT.out; omega
          clear hown hg HO HK HS
          go_wp2_with fail
          go_roundw
          case rel => exact ⟨k + 1, by omega, by rw [hm1]; go_num, HO5, HK5⟩
          case measure => simp [intOf]; omega
    · have hkk : k = (bs.length + 1) / 2 := by omega
      subst hkk
      have d0 : decide ((t : Int) < (bs.length : Int)) = false := by simp; omega
      clear ht
      go_wp2_with fail
      go_ret
      exact ⟨_, rfl, HO.out, HK.out⟩
end Go.Proofs.Ytdjbalaicfienaa
