/- The walks of layer 7, 4: which modes may not be. -/
import Derived.Test.YtmjodcackmjllaaM5
import Derived.Shelf.Abstract
import Derived.Shelf.RegionOpen
namespace Go.Proofs.Ytmjodcackmjllaa
open Go.RowKit Go.Shelf
set_option linter.unusedVariables false
set_option linter.unusedSimpArgs false
set_option maxRecDepth 100000 in
set_option maxHeartbeats 1000000 in
theorem check1_any (m : RMedl) (x : RM) (B : Nat) (w : World) (hm : m.In w) (hx : x.In w) (hc : countsOk m = true)
    (hB : Box w B 25 #[.int .i64 m.nodes, .int .i64 m.slot, .int .i64 m.gap, .int .i64 m.window, .int .i64 m.drift, .int .i64 m.delay, m.cv, .slice m.ma m.mn m.mc]) :
    Calls Try.prog 62 #[.agg #[x.dv, x.ev, x.nv], .pointer (some ⟨B, 0, none⟩)] w fun e w' => e = .returned (.bool (!modeOk m.nodes m.xs.length m.cs x)) ∧ Keeps w w' := by
  have HM := Lib.hid hm
  have HX := Lib.hid hx
  have HC := Lib.hid hc
  have HB := Lib.hid hB
  obtain ⟨da, dc, hdv, hd1, hd2, hd3⟩ := hx.d.shape
  obtain ⟨ea, ec, hev, he1, he2, he3⟩ := hx.e.shape
  obtain ⟨na, nc, hnv, hn1, hn2, hn3⟩ := hx.n.shape
  obtain ⟨ca, cc, hcv, hc1, hc2, hc3⟩ := hm.c.shape
  clear hd3 he3 hn3 hc3 hm hx hc hB
  obtain ⟨no, sl, ga, wi, dr, de, cv, cs, ma, mn, mc, xs⟩ := m
  obtain ⟨xd, xe, xn, ds, es, ns⟩ := x
  simp only at hdv hev hnv hcv HB HM HX HC hd1 he1 hn1 hc1
  subst hdv hev hnv hcv
  show Calls Try.prog 62 #[.agg #[.slice da ds.length dc, .slice ea es.length ec, .slice na ns.length nc], .pointer (some ⟨B, 0, none⟩)] w fun e w' => e = .returned (.bool (!modeOk no xs.length cs ⟨.slice da ds.length dc, .slice ea es.length ec, .slice na ns.length nc, ds, es, ns⟩)) ∧ Keeps w w'
  have hb0 := HB.out.cell 0 _ rfl
  have hb1 := HB.out.cell 1 _ rfl
  have hb2 := HB.out.cell 2 _ rfl
  have hb3 := HB.out.cell 3 _ rfl
  have hb4 := HB.out.cell 4 _ rfl
  have hb5 := HB.out.cell 5 _ rfl
  have hb6 := HB.out.cell 6 _ rfl
  have hb7 := HB.out.cell 7 _ rfl
  have hbl := HB.out.lt
  have hbne : ¬ B = w.heap.size := by omega
  go_enter Try.func62, Try.ntmps62
  go_wp2_with fail
  with_reducible refine (isMode_any ⟨no, sl, ga, wi, dr, de, .slice ca cs.length cc, cs, ma, mn, mc, xs⟩ ⟨.slice da ds.length dc, .slice ea es.length ec, .slice na ns.length nc, ds, es, ns⟩ _ (by exact HM.out.keeps ((Keeps.refl w).alloc _)) (by exact HX.out.keeps ((Keeps.refl w).alloc _)) HC.out).mono ?_
  rintro e w1 ⟨rfl, hk1⟩
  have HK := Lib.hid (((Keeps.refl w).alloc _).trans hk1)
  clear hk1
  simp only
  go_wp2_with fail
  go_ret
  exact ⟨rfl, HK.out⟩

theorem modesOk_no (m : RMedl) (x : RM) (hx : x ∈ m.xs) (h : modeOk m.nodes m.xs.length m.cs x = false) : modesOk m = false := by
  unfold modesOk
  rw [Bool.eq_false_iff]
  intro hh
  rw [List.all_eq_true] at hh
  have := hh _ hx
  rw [h] at this
  cases this
theorem modesOk_yes (m : RMedl) (h : ∀ x ∈ m.xs, modeOk m.nodes m.xs.length m.cs x = true) : modesOk m = true := by
  unfold modesOk
  rw [List.all_eq_true]
  exact h
set_option maxRecDepth 100000 in
set_option maxHeartbeats 1000000 in
theorem idxModes_any (m : RMedl) (B : Nat) (w : World) (hm : m.In w) (hc : countsOk m = true)
    (hB : Box w B 25 #[.int .i64 m.nodes, .int .i64 m.slot, .int .i64 m.gap, .int .i64 m.window, .int .i64 m.drift, .int .i64 m.delay, m.cv, .slice m.ma m.mn m.mc]) :
    Calls Try.prog 99 #[.slice m.ma m.mn m.mc, .func (.func 62) #[] #[.pointer (some ⟨B, 0, none⟩)]] w fun e w' => (∃ z : Int, e = .returned (.int .i64 z) ∧ decide (0 ≤ z) = !modesOk m) ∧ Keeps w w' := by
  have eg : ∀ args w, (callFunc 62 args).run Try.prog w = .ok (.enter 62 args) w := enters_of Try.func62 (by kernel_rfl) rfl
  have HM := Lib.hid hm
  have HC := Lib.hid hc
  have HB := Lib.hid hB
  have HX := Lib.hid hm.m
  clear hm hc hB
  obtain ⟨m, hmm⟩ : ∃ m', m' = m := ⟨_, rfl⟩
  subst hmm
  have hlen := HX.out.len
  have hcap := HX.out.hcap
  have hmax := HX.out.hmax
  have HY := Lib.hid (modesOk_yes m)
  have HN := Lib.hid (modesOk_no m)
  obtain ⟨xs, hxs⟩ : ∃ xs, xs = m.xs := ⟨_, rfl⟩
  obtain ⟨ma, hma⟩ : ∃ ma, ma = m.ma := ⟨_, rfl⟩
  obtain ⟨mn, hmn⟩ : ∃ mn, mn = m.mn := ⟨_, rfl⟩
  obtain ⟨mc, hmc⟩ : ∃ mc, mc = m.mc := ⟨_, rfl⟩
  rw [← hmn, ← hxs] at hlen
  rw [← hmn, ← hmc] at hcap
  rw [← hmc] at hmax
  rw [← hma, ← hmn, ← hmc, ← hxs] at HX
  rw [← hma, ← hmn, ← hmc]
  subst hlen
  have HXS := Lib.hid hxs
  clear hxs hma hmn hmc
  go_enter Try.func99, Try.ntmps99
  go_wp2_with fail
  go_loopw [8] (fun i wr => ∃ k : Nat, k ≤ xs.length ∧ i = .int .i64 k ∧ Hid (∀ i (hi : i < xs.length), i < k → modeOk m.nodes m.xs.length m.cs xs[i] = true) ∧ Hid (Keeps w wr)) (fun i _ => xs.length - (intOf i).toNat)
  case atStart => exact ⟨0, by omega, rfl, fun i _ hi => absurd hi (by omega), Keeps.refl _⟩
  case round =>
    obtain ⟨k, hk, rfl, HI, HK⟩ := hrel
    by_cases hlt : k < xs.length
    · obtain ⟨b, off, rfl, hcell⟩ := HX.out.addr (by omega)
      obtain ⟨hc0, hc1, hc2⟩ := hcell k hlt
      replace hc0 := HK.out.later hc0
      replace hc1 := HK.out.later hc1
      replace hc2 := HK.out.later hc2
      have HXI := Lib.hid (HX.out.isIn _ (List.getElem_mem hlt))
      clear hcell
      have HNO : Hid (modeOk m.nodes m.xs.length m.cs xs[k] = false → modesOk m = false) := fun h => HN.out _ (by rw [← HXS.out]; exact List.getElem_mem hlt) h
      have HYES : Hid (modeOk m.nodes m.xs.length m.cs xs[k] = true → ∀ i (hi : i < xs.length), i < k + 1 → modeOk m.nodes m.xs.length m.cs xs[i] = true) := fun h i hi hik => by
        by_cases e : i = k
        · subst e; exact h
        · exact HI.out i hi (by omega)
      obtain ⟨x, hx⟩ : ∃ x, x = xs[k] := ⟨_, rfl⟩
      rw [← hx] at hc0 hc1 hc2 HXI HNO HYES
      clear hx HI
      obtain ⟨da, dc, hdv, hd1, hd2, hd3⟩ := HXI.out.d.shape
      obtain ⟨ea, ec, hev, he1, he2, he3⟩ := HXI.out.e.shape
      obtain ⟨na, nc, hnv, hn1, hn2, hn3⟩ := HXI.out.n.shape
      clear hd3 he3 hn3 hd1 hd2 he1 he2 hn1 hn2
      obtain ⟨xd, xe, xn, ds, es, ns⟩ := x
      simp only at hdv hev hnv hc0 hc1 hc2
      subst hdv hev hnv
      have HCON : Hid (∀ w', Keeps w w' → Calls Try.prog 62 #[.agg #[.slice da ds.length dc, .slice ea es.length ec, .slice na ns.length nc], .pointer (some ⟨B, 0, none⟩)] w' fun e w'' => e = .returned (.bool (!modeOk m.nodes m.xs.length m.cs ⟨.slice da ds.length dc, .slice ea es.length ec, .slice na ns.length nc, ds, es, ns⟩)) ∧ Keeps w' w'') := fun w' hk =>
        check1_any m ⟨.slice da ds.length dc, .slice ea es.length ec, .slice na ns.length nc, ds, es, ns⟩ B w' (HM.out.keeps hk) (HXI.out.keeps hk) HC.out (HB.out.keeps hk)
      obtain ⟨A, hA⟩ : ∃ A, A = modeOk m.nodes m.xs.length m.cs ⟨.slice da ds.length dc, .slice ea es.length ec, .slice na ns.length nc, ds, es, ns⟩ := ⟨_, rfl⟩
      rw [← hA] at HCON HNO HYES
      clear hA
      cases A
      · go_wp2_with (go_at_fn 62; with_reducible refine (HCON.out _ HK.out).mono ?_; rintro e w1 ⟨rfl, hk1⟩)
        go_ret
        exact ⟨⟨k, rfl, by rw [HNO.out trivial]; simp⟩, HK.out.trans hk1⟩
      · go_wp2_with (go_at_fn 62; with_reducible refine (HCON.out _ HK.out).mono ?_; rintro e w1 ⟨rfl, hk1⟩)
        go_roundw
        case rel => exact ⟨k + 1, by omega, by go_num, HYES.out trivial, HK.out.trans hk1⟩
        case measure => simp [intOf]; omega
    · obtain rfl : k = xs.length := by omega
      have HR : Hid (modesOk m = true) := Lib.hid (HY.out fun x hx => by
        rw [← HXS.out] at hx
        obtain ⟨i, hi, rfl⟩ := List.getElem_of_mem hx
        exact HI.out i hi hi)
      go_wp2_with fail
      go_ret
      exact ⟨⟨-1, rfl, by rw [HR.out]; rfl⟩, HK.out⟩
end Go.Proofs.Ytmjodcackmjllaa
