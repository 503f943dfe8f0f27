/- medl.Bytes. -/
import Derived.Test.YtmjodcackmjllaaQ5
namespace Go.Proofs.Ytmjodcackmjllaa
open Go.RowKit
set_option linter.unusedVariables false
set_option linter.unusedSimpArgs false
theorem Box.ints {w : World} {b t : Nat} {c : Array Value} {zs : List Int} (h : Box w b t c) (hc : c = (zs.map (Value.int .i64)).toArray) (hl : zs.length ≤ 1000) : Ints w (.slice (some ⟨b, 0, none⟩) zs.length zs.length) zs := by
  subst hc
  refine ⟨some ⟨b, 0, none⟩, zs.length, rfl, Nat.le_refl _, by omega, ?_⟩
  have := h.rowU
  simpa using this
theorem Wr.alloc {w : World} {base B : Nat} {v : Value} {l : List Nat} (h : Wr w base B v l) (o : Obj) : Wr (w.alloc o) base B v l := h.keeps ((Keeps.refl w).alloc o)
theorem lit_far {w : World} {base B : Nat} {v : Value} {l : List Nat} (hw : Wr w base B v l) (m : Nat) : ∀ a n c, (Value.slice (some ⟨w.heap.size, 0, none⟩) m m) = .slice (some a) n c → 0 < n → a.block ≠ B ∧ v.ownBlock ≠ some a.block := by
  intro a n c h _
  simp only [Value.slice.injEq, Option.some.injEq] at h
  obtain ⟨rfl, rfl, rfl⟩ := h
  have hl := hw.box.lt
  refine ⟨fun e => ?_, fun e => ?_⟩
  · simp only at e; omega
  · have := (hw.own.lt _ e).2
    simp only at this
    omega
theorem all_one_lit (base B : Nat) (v : Value) (l : List Nat) (zs : List Int) (c : Array Value) (n s : Nat) (w : World) (hs : s = w.heap.size) (hn : n = zs.length) (hc : c = (zs.map (Value.int .i64)).toArray) (hw : Wr w base B v l) (hb : base ≤ w.heap.size) (hl : l.length + 4 * n ≤ 2000) :
    Calls Try.prog 86 #[.func (.func 87) #[.pointer (some ⟨B, 0, none⟩)] #[], .slice (some ⟨s, 0, none⟩) n n] (w.alloc (.cells c 3)) fun e w' => e = .returned (.tuple #[]) ∧ ∃ v', Wr w' base B v' (l ++ ones zs n) ∧ GrB B w w' v v' := by
  subst hn
  subst hs
  refine (all_one base B v l _ zs _ (hw.alloc _) (by simp; omega) (by omega) (Box.ints (Box.new w 3 c) hc (by omega)) (lit_far hw _)).mono ?_
  rintro e w' ⟨rfl, v', h1, h2⟩
  exact ⟨rfl, v', h1, (((Keeps.refl w).alloc (.cells c 3)).grB B v).trans h2⟩
theorem all_four_lit (base B : Nat) (v : Value) (l : List Nat) (zs : List Nat) (c : Array Value) (n s : Nat) (w : World) (hs : s = w.heap.size) (hn : n = zs.length) (hc : c = ((zs.map fun n : Nat => (n : Int)).map (Value.int .i64)).toArray) (hw : Wr w base B v l) (hb : base ≤ w.heap.size) (hl : l.length + 4 * n ≤ 2000) (hz : ∀ n ∈ zs, n < 9223372036854775808) :
    Calls Try.prog 86 #[.func (.func 88) #[.pointer (some ⟨B, 0, none⟩)] #[], .slice (some ⟨s, 0, none⟩) n n] (w.alloc (.cells c 3)) fun e w' => e = .returned (.tuple #[]) ∧ ∃ v', Wr w' base B v' (l ++ fours zs n) ∧ GrB B w w' v v' := by
  subst hn
  subst hs
  have hI := Box.ints (Box.new w 3 c) hc (by simp; omega)
  rw [List.length_map] at hI
  refine (all_four base B v l _ zs _ (hw.alloc _) (by simp; omega) (by omega) hI (lit_far hw _) hz).mono ?_
  rintro e w' ⟨rfl, v', h1, h2⟩
  exact ⟨rfl, v', h1, (((Keeps.refl w).alloc (.cells c 3)).grB B v).trans h2⟩
/-- what lay there ahead of the writer is neither its box nor its own -/
theorem low_far {w wr : World} {base B : Nat} {v : Value} {l : List Nat} {zs : List Int} {z : Value} (hz : Ints w z zs) (hw : Wr wr base B v l) (hB : w.heap.size ≤ B) (hb : w.heap.size ≤ base) : ∀ a n c, z = .slice (some a) n c → 0 < n → a.block ≠ B ∧ v.ownBlock ≠ some a.block := by
  intro a n c h hn
  obtain ⟨ad, cap, rfl, -, -, hr⟩ := hz.shape
  simp only [Value.slice.injEq] at h
  obtain ⟨rfl, rfl, rfl⟩ := h
  obtain ⟨b, off, hab, -, hlt⟩ := hr.addr hn
  simp only [Option.some.injEq] at hab
  subst hab
  refine ⟨fun e => ?_, fun e => ?_⟩
  · simp only at e; omega
  · have := (hw.own.lt _ e).1
    simp only at this
    omega
theorem GrB.box {B : Nat} {w w' : World} {v v' : Value} (hg : GrB B w w' v v') {b t : Nat} {c : Array Value} (h : Box w b t c) (hb : b ≠ B) (hv : v.ownBlock ≠ some b) : Box w' b t c ∧ v'.ownBlock ≠ some b := by
  refine ⟨(hg.block b h.lt hb hv).trans h, ?_⟩
  rcases hg.own with e | ⟨k, e, hk⟩
  · rw [e]; exact hv
  · rw [e]
    have := h.lt
    simp only [ne_eq, Option.some.injEq]
    omega
set_option maxRecDepth 100000 in
set_option maxHeartbeats 4000000 in
theorem mbytes_any (m : RMedl) (w : World) (hm : m.In w) :
    Calls Try.prog 49 #[m.val] w fun e w' => ∃ v, e = .returned (.tuple #[v, .int .i64 (medlErr m)]) ∧ Own w' w.heap.size 5 v (u8s (bytesRes m)) ∧ Keeps w w' := by
  cases hok : medlOk m
  · have hE := medlErr_70 hok
    have hR : bytesRes m = [] := by unfold bytesRes; rw [hok]; rfl
    rw [hR, hE]
    have HC := Lib.hid (mcheck_any m (w.alloc (.cells #[.int .i64 m.nodes, .int .i64 m.slot, .int .i64 m.gap, .int .i64 m.window, .int .i64 m.drift, .int .i64 m.delay, m.cv, .slice m.ma m.mn m.mc] 25)) (hm.keeps ((Keeps.refl w).alloc _)))
    obtain ⟨ca, cc, hcv, -, -, -⟩ := hm.c.shape
    rw [hE] at HC
    obtain ⟨no, sl, ga, wi, dr, de, cv, cs, ma, mn, mc, xs⟩ := m
    simp only at hcv HC
    clear hE hR hok hm
    subst hcv
    show Calls Try.prog 49 #[.agg #[.int .i64 no, .int .i64 sl, .int .i64 ga, .int .i64 wi, .int .i64 dr, .int .i64 de, .slice ca cs.length cc, .slice ma mn mc]] w _
    have HK := Lib.hid ((Keeps.refl w).alloc (.cells #[.int .i64 no, .int .i64 sl, .int .i64 ga, .int .i64 wi, .int .i64 dr, .int .i64 de, .slice ca cs.length cc, .slice ma mn mc] 25))
    go_enter Try.func49, Try.ntmps49
    go_wp2_with fail
    with_reducible refine HC.out.mono ?_
    rintro e w1 ⟨rfl, hk1⟩
    have HK1 := Lib.hid (HK.out.trans hk1)
    clear hk1 HC HK
    go_wp2_with fail
    go_ret2
    exact ⟨_, rfl, Own.nil _ _ _, HK1.out⟩
  have hF := medlOk_fit hok
  have hE := medlErr_yes hok
  have hR : bytesRes m = medlBytes m := by unfold bytesRes; rw [hok]; rfl
  rw [hR, hE]
  clear hR hok
  have HM := Lib.hid hm
  obtain ⟨Bd, hBd⟩ : ∃ Bd : Nat → List Nat, Bd = bodyTo m := ⟨_, rfl⟩
  have HB0 := Lib.hid ((congrFun hBd 0).trans (bodyTo_zero m))
  have HBS : Hid (∀ k, (h : k < m.xs.length) → Bd (k + 1) = ((Bd k ++ ones m.xs[k].ds m.xs[k].ds.length) ++ [truTo m.xs[k].es m.xs[k].es.length]) ++ [truTo m.xs[k].ns m.xs[k].ns.length]) := Lib.hid (by rw [hBd]; exact bodyTo_succ m)
  have HBL : Hid (∀ k, k ≤ m.xs.length → (Bd k).length ≤ 58) := Lib.hid (fun k hk => by
    rw [hBd, bodyTo_len hF k hk]
    have := hF.n2; have := hF.x2
    have : k * (m.nodes.toNat + 2) ≤ 4 * 10 := Nat.mul_le_mul (by omega) (by omega)
    omega)
  have HBY : Hid (∀ x ∈ Bd m.xs.length, x < 256) := Lib.hid (by rw [hBd]; exact bodyTo_lt hF _)
  have HRES : Hid (medlBytes m = Bd m.xs.length ++ ones [(sumN (Bd m.xs.length) : Int) / 65536, (sumN (Bd m.xs.length) : Int) / 256, (sumN (Bd m.xs.length) : Int)] 3) := Lib.hid (by rw [hBd]; rfl)
  have HD : Hid (∀ k, (h : k < m.xs.length) → m.xs[k].ds.length ≤ 8 ∧ m.xs[k].es.length ≤ 8 ∧ m.xs[k].ns.length ≤ 8) := Lib.hid (fun k h => by
    obtain ⟨d1, d2, d3, -⟩ := hF.d _ (List.getElem_mem h)
    have := hF.n2; have := hF.x2
    omega)
  have hcs8 : m.cs.length ≤ 8 := by have := hF.n2; have := hF.c; omega
  have hx4 := hF.x2
  obtain ⟨s1, s2⟩ := hF.slot
  obtain ⟨g1, g2⟩ := hF.gap
  obtain ⟨q1, q2⟩ := hF.window
  clear hBd hF
  have HC := Lib.hid (mcheck_any m (w.alloc (.cells #[.int .i64 m.nodes, .int .i64 m.slot, .int .i64 m.gap, .int .i64 m.window, .int .i64 m.drift, .int .i64 m.delay, m.cv, .slice m.ma m.mn m.mc] 25)) (hm.keeps ((Keeps.refl w).alloc _)))
  obtain ⟨ca, cc, hcv, -, -, -⟩ := hm.c.shape
  rw [hE] at HC
  clear hE hm
  obtain ⟨R, hRR⟩ : ∃ R, R = medlBytes m := ⟨_, rfl⟩
  rw [← hRR] at HRES ⊢
  clear hRR
  have HMC := Lib.hid HM.out.c
  have HX := Lib.hid HM.out.m
  clear HM
  obtain ⟨no, sl, ga, wi, dr, de, cv, cs, ma, mn, mc, xs⟩ := m
  simp only [headB] at hcv HC HB0 HBS HBL HBY HRES HD hcs8 hx4 s1 s2 g1 g2 q1 q2 HMC HX
  subst hcv
  have hlen := HX.out.len
  subst hlen
  obtain ⟨S, rfl⟩ : ∃ S : Nat, sl = (S : Int) := ⟨sl.toNat, by omega⟩
  obtain ⟨G, rfl⟩ : ∃ G : Nat, ga = (G : Int) := ⟨ga.toNat, by omega⟩
  obtain ⟨W, rfl⟩ : ∃ W : Nat, wi = (W : Int) := ⟨wi.toNat, by omega⟩
  simp only [Int.toNat_natCast] at HB0
  have hcap := HX.out.hcap
  have hmax := HX.out.hmax
  show Calls Try.prog 49 #[.agg #[.int .i64 no, .int .i64 S, .int .i64 G, .int .i64 W, .int .i64 dr, .int .i64 de, .slice ca cs.length cc, .slice ma xs.length mc]] w _
  have HK := Lib.hid ((Keeps.refl w).alloc (.cells #[.int .i64 no, .int .i64 S, .int .i64 G, .int .i64 W, .int .i64 dr, .int .i64 de, .slice ca cs.length cc, .slice ma xs.length mc] 25))
  have HBX := Lib.hid (Box.new w 25 #[.int .i64 no, .int .i64 S, .int .i64 G, .int .i64 W, .int .i64 dr, .int .i64 de, .slice ca cs.length cc, .slice ma xs.length mc])
  go_enter Try.func49, Try.ntmps49
  go_wp2_with fail
  with_reducible refine HC.out.mono ?_
  rintro e w1 ⟨rfl, hk1⟩
  have HK1 := Lib.hid (HK.out.trans hk1)
  have HM1 := Lib.hid (HBX.out.keeps hk1)
  clear hk1 HC HK HBX
  have HW1 : Hid (Wr (w1.alloc (.cells #[.slice none 0 0] 97)) w1.heap.size w1.heap.size (.slice none 0 0) []) := Lib.hid ⟨Box.new w1 97 #[.slice none 0 0], Own.nil _ _ _, by intro h; cases h⟩
  have HKA := Lib.hid ((Keeps.refl w1).alloc (.cells #[.slice none 0 0] 97))
  have hm0 := HM1.out.cell 0 _ rfl
  have hm7 := HM1.out.cell 7 _ rfl
  have hml := HM1.out.lt
  go_wp2_with fail
  with_reducible refine (all_one_lit _ _ _ _ [77, no, (xs.length : Int)] #[.int .i64 77, .int .i64 no, .int .i64 xs.length] 3 _ _ (by simp) rfl rfl (by exact HW1.out) (by simp) (by decide)).mono ?_
  rintro e w2 ⟨rfl, v2, hw2, hg2⟩
  have HW2 := Lib.hid hw2
  have HK2 : Hid (Keeps w1 w2) := Lib.hid (hg2.keeps HKA.out (Nat.le_refl _) (fun k hk => (HW1.out.own.lt k hk).1))
  clear hw2 hg2 HW1 HKA hm0 hm7 hml
  have hm1 := (HM1.out.keeps HK2.out).cell 1 _ rfl
  have hm2 := (HM1.out.keeps HK2.out).cell 2 _ rfl
  have hm3 := (HM1.out.keeps HK2.out).cell 3 _ rfl
  have hml := (HM1.out.keeps HK2.out).lt
  have hsz := HK2.out.size
  go_wp2_with fail
  with_reducible refine (all_four_lit _ _ _ _ [S, G, W] #[.int .i64 S, .int .i64 G, .int .i64 W] 3 _ _ rfl rfl rfl (by exact HW2.out) (by omega) (by simp [ones, fours, be4]) (by simp; omega)).mono ?_
  rintro e w3 ⟨rfl, v3, hw3, hg3⟩
  have HW3 := Lib.hid hw3
  have HK3 : Hid (Keeps w1 w3) := Lib.hid (hg3.keeps HK2.out (Nat.le_refl _) (fun k hk => (HW2.out.own.lt k hk).1))
  clear hw3 hg3 HW2 HK2 hm1 hm2 hm3 hml hsz
  have hm4 := (HM1.out.keeps HK3.out).cell 4 _ rfl
  have hm5 := (HM1.out.keeps HK3.out).cell 5 _ rfl
  have hml := (HM1.out.keeps HK3.out).lt
  have hsz := HK3.out.size
  go_wp2_with fail
  with_reducible refine (all_one_lit _ _ _ _ [dr, de] #[.int .i64 dr, .int .i64 de] 2 _ _ rfl rfl rfl (by exact HW3.out) (by omega) (by simp [ones, fours, be4])).mono ?_
  rintro e w4 ⟨rfl, v4, hw4, hg4⟩
  have HW4 := Lib.hid hw4
  have HK4 : Hid (Keeps w1 w4) := Lib.hid (hg4.keeps HK3.out (Nat.le_refl _) (fun k hk => (HW3.out.own.lt k hk).1))
  clear hw4 hg4 HW3 HK3 hm4 hm5 hml hsz
  have hm6 := (HM1.out.keeps HK4.out).cell 6 _ rfl
  have hml := (HM1.out.keeps HK4.out).lt
  have hsz := HK4.out.size
  go_wp2_with fail
  with_reducible refine (truths_any _ _ _ _ _ cs _ (by exact HW4.out) (by omega) (by simp [ones, fours, be4]) (by exact HMC.out.keeps (HK1.out.trans HK4.out)) hcs8).mono ?_
  rintro e w5 ⟨rfl, v5, hw5, hg5⟩
  have HW5 : Hid (Wr w5 w1.heap.size w1.heap.size v5 (Bd 0)) := Lib.hid (by rw [HB0.out]; exact hw5)
  have HK5 : Hid (Keeps w1 w5) := Lib.hid (hg5.keeps HK4.out (Nat.le_refl _) (fun k hk => (HW4.out.own.lt k hk).1))
  clear hw5 hg5 HW4 HK4 hm6 hml hsz HB0
  have hm7 := (HM1.out.keeps HK5.out).cell 7 _ rfl
  have hml := (HM1.out.keeps HK5.out).lt
  go_wp2_with fail
  clear hm7 hml
  go_loopw [50] (fun i wr => ∃ (k : Nat) (v : Value), k ≤ xs.length ∧ i = .int .i64 k ∧ Hid (Wr wr w1.heap.size w1.heap.size v (Bd k)) ∧ Hid (Keeps w1 wr)) (fun i _ => xs.length - (intOf i).toNat)
  case atStart => exact ⟨0, v5, by omega, rfl, HW5, HK5⟩
  case round =>
    clear HW5 HK5
    obtain ⟨k, v, hk, rfl, HW, HK⟩ := hrel
    have hl58 := HBL.out k hk
    by_cases hlt : k < xs.length
    · obtain ⟨b, off, rfl, hcell⟩ := HX.out.addr (by omega)
      obtain ⟨hc0, hc1, hc2⟩ := hcell k hlt
      replace hc0 := HK.out.later (HK1.out.later hc0)
      replace hc1 := HK.out.later (HK1.out.later hc1)
      replace hc2 := HK.out.later (HK1.out.later hc2)
      have HI := Lib.hid (HX.out.isIn _ (List.getElem_mem hlt))
      have HS := Lib.hid (HBS.out k hlt)
      obtain ⟨hd8, he8, hn8⟩ := HD.out k hlt
      clear hcell
      obtain ⟨x, hx⟩ : ∃ x, x = xs[k] := ⟨_, rfl⟩
      rw [← hx] at hc0 hc1 hc2 HI HS hd8 he8 hn8
      clear hx
      obtain ⟨xd, xe, xn, ds, es, ns⟩ := x
      have HDD := Lib.hid HI.out.d
      have HEE := Lib.hid HI.out.e
      have HNN := Lib.hid HI.out.n
      clear HI
      simp only at hc0 hc1 hc2 HDD HEE HNN HS hd8 he8 hn8
      obtain ⟨da, dc, rfl, -, -, -⟩ := HDD.out.shape
      obtain ⟨ea, ec, rfl, -, -, -⟩ := HEE.out.shape
      obtain ⟨na, nc, rfl, -, -, -⟩ := HNN.out.shape
      have HB := Lib.hid (Box.new wr 71 #[.slice da ds.length dc, .slice ea es.length ec, .slice na ns.length nc])
      have HKX := Lib.hid ((Keeps.refl wr).alloc (.cells #[.slice da ds.length dc, .slice ea es.length ec, .slice na ns.length nc] 71))
      have hsz := HK.out.size
      have hsz1 := HK1.out.size
      go_wp2_with fail
      clear hc0 hc1 hc2
      have HKR := Lib.hid (HK1.out.trans (HK.out.trans HKX.out))
      with_reducible refine (all_one _ _ _ _ _ ds _ (by exact HW.out.keeps HKX.out) (by simp; omega) (by omega) (by exact HDD.out.keeps HKR.out) (by exact low_far HDD.out HW.out hsz1 hsz1)).mono ?_
      rintro e x2 ⟨rfl, u2, hw2, hg2⟩
      have HW2 := Lib.hid hw2
      have hbw := HW.out.box.lt
      obtain ⟨hbx2, ho2⟩ := hg2.box HB.out (by omega) (fun e => by have := (HW.out.own.lt _ e).2; omega)
      have HB2 := Lib.hid hbx2
      have HO2 := Lib.hid ho2
      have HKX2 : Hid (Keeps w1 x2) := Lib.hid (hg2.keeps (HK.out.trans HKX.out) (Nat.le_refl _) (fun k hk => (HW.out.own.lt k hk).1))
      have hl2 := ones_len ds ds.length (Nat.le_refl _)
      have b1 := HB2.out.cell 1 _ rfl
      have bl := HB2.out.lt
      have hsz2 := HKX2.out.size
      clear hw2 hg2 HW hbx2 ho2 HB HKX HKR
      go_wp2_with fail
      with_reducible refine (truths_any _ _ _ _ _ es _ (by exact HW2.out) (by exact hsz2) (by simp only [List.length_append, hl2]; omega) (by exact HEE.out.keeps (HK1.out.trans HKX2.out)) he8).mono ?_
      rintro e x3 ⟨rfl, u3, hw3, hg3⟩
      have HW3 := Lib.hid hw3
      obtain ⟨hbx3, ho3⟩ := hg3.box HB2.out (by omega) HO2.out
      have HB3 := Lib.hid hbx3
      have HKX3 : Hid (Keeps w1 x3) := Lib.hid (hg3.keeps HKX2.out (Nat.le_refl _) (fun k hk => (HW2.out.own.lt k hk).1))
      clear b1 bl hsz2 hw3 hg3 HW2 hbx3 ho3 HB2 HO2 HKX2
      have b2 := HB3.out.cell 2 _ rfl
      have bl := HB3.out.lt
      have hsz3 := HKX3.out.size
      go_wp2_with fail
      with_reducible refine (truths_any _ _ _ _ _ ns _ (by exact HW3.out) (by exact hsz3) (by simp only [List.length_append, hl2, List.length_cons, List.length_nil]; omega) (by exact HNN.out.keeps (HK1.out.trans HKX3.out)) hn8).mono ?_
      rintro e x4 ⟨rfl, u4, hw4, hg4⟩
      have HW4 : Hid (Wr x4 w1.heap.size w1.heap.size u4 (Bd (k + 1))) := Lib.hid (by rw [HS.out]; exact hw4)
      have HKX4 : Hid (Keeps w1 x4) := Lib.hid (hg4.keeps HKX3.out (Nat.le_refl _) (fun k hk => (HW3.out.own.lt k hk).1))
      clear b2 bl hsz3 hw4 hg4 HW3 HB3 HKX3
      go_wp2_with fail
      go_roundw
      case rel => exact ⟨k + 1, u4, by omega, by go_num, HW4, HKX4⟩
      case measure => simp [intOf]; omega
    · obtain rfl : k = xs.length := by omega
      clear HBS HBL HD HX HM1
      obtain ⟨L, hL⟩ : ∃ L, Bd xs.length = L := ⟨_, rfl⟩
      rw [hL] at HW HBY HRES hl58
      clear hL
      obtain ⟨ad, cp, hv, hcp1, hcp2, hrow⟩ := HW.out.own.shape
      rw [u8s_len] at hv hcp1 hrow
      subst hv
      have b0 := HW.out.box.cell 0 _ rfl
      have bl := HW.out.box.lt
      have HRW := Lib.hid hrow
      clear hrow
      go_wp2_with fail
      with_reducible refine (msum_any ad cp L _ (by exact HRW.out) hcp1 hcp2 (by omega) HBY.out).mono ?_
      rintro e x2 ⟨rfl, hk2⟩
      have HW2 := Lib.hid (HW.out.keeps hk2)
      have HK2 := Lib.hid (HK.out.trans hk2)
      have hs24 := sumN_lt L
      obtain ⟨s, hs⟩ : ∃ s, s = sumN L := ⟨_, rfl⟩
      rw [← hs] at HRES hs24 ⊢
      have hsz2 := HK2.out.size
      clear hk2 hs b0 bl HW HRW HK
      go_wp2_with fail
      with_reducible refine (all_one_lit _ _ _ _ [(s : Int) / 65536, (s : Int) / 256, (s : Int)] #[.int .i64 ((s : Int) / 65536), .int .i64 ((s : Int) / 256), .int .i64 s] 3 _ _ rfl rfl rfl (by exact HW2.out) (by exact hsz2) (by omega)).mono ?_
      rintro e x3 ⟨rfl, u3, hw3, hg3⟩
      rw [← HRES.out] at hw3
      have HKX3 : Hid (Keeps w1 x3) := Lib.hid (hg3.keeps HK2.out (Nat.le_refl _) (fun k hk => (HW2.out.own.lt k hk).1))
      have HO := Lib.hid hw3.own
      obtain ⟨ad3, cp3, hv3, -, -, -⟩ := hw3.own.shape
      subst hv3
      have b0 := hw3.box.cell 0 _ rfl
      have bl := hw3.box.lt
      clear hw3 hg3 HW2 HK2 hsz2
      go_wp2_with fail
      go_ret2
      exact ⟨_, rfl, HO.out.mono HK1.out.size, HK1.out.trans HKX3.out⟩
end Go.Proofs.Ytmjodcackmjllaa
