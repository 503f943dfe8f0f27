/- The walks of layer 12, 16: the reference's Round, Send. -/
import Derived.Test.YtcophhdlcjemeaaK15
import Derived.Test.YtcophhdlcjemeaaK8
namespace Go.Proofs.Ytcophhdlcjemeaa
open Go.RowKit
set_option linter.unusedVariables false
set_option linter.unusedSimpArgs false
set_option maxRecDepth 100000 in
set_option maxHeartbeats 4000000 in
theorem rround_any (c : RCni) (w : World) (hc : c.In w) : Calls Try.prog 31 #[c.val] w (CniPost (roundP c.p) (ownE c.p) w) := by
  have HCH : Hid (∀ w, c.In w → Calls Try.prog 33 #[c.val] w fun e w' => e = .returned (.int .i64 (cond (cniOk c.p) 0 120)) ∧ Keeps w w') := Lib.hid (rccheck_any c)
  have HCL : Hid (cniOk c.p = true → ∀ w, c.In w → Calls Try.prog 27 #[c.val] w (ClonePost (ownP c.p) w)) := Lib.hid (fun h w hc => by
    have h2 := clone12_any c w hc (reach12_ok hc h)
    have h3 : ownP c.p = c.p := by unfold ownP; rw [h]; rfl
    rw [h3]; exact h2)
  have HOK := Lib.hid (fun h => (cniOk_iff c.p).1 h)
  have HQ : Hid (ownP c.p = cond (cniOk c.p) c.p PCni.zero) := Lib.hid rfl
  have HP : Hid (roundP c.p = cond (cniOk c.p) { ownP c.p with ms := (ownP c.p).ms.map agep, life := max ((ownP c.p).life - 1) 0 } PCni.zero) := Lib.hid (by unfold roundP ownP; cases cniOk c.p <;> rfl)
  have HE : Hid (ownE c.p = cond (cniOk c.p) 0 120) := Lib.hid (by unfold ownE; cases cniOk c.p <;> rfl)
  obtain ⟨P, hP⟩ : ∃ P, P = roundP c.p := ⟨_, rfl⟩
  obtain ⟨E, hE⟩ : ∃ E, E = ownE c.p := ⟨_, rfl⟩
  obtain ⟨Q, hQ⟩ : ∃ Q, Q = ownP c.p := ⟨_, rfl⟩
  obtain ⟨O, hO⟩ : ∃ O, O = cniOk c.p := ⟨_, rfl⟩
  rw [← hO, ← hQ] at HCL
  rw [← hO] at HCH
  rw [← hO, ← hQ] at HQ
  rw [← hO] at HOK
  rw [← hP, ← hO, ← hQ] at HP
  rw [← hE, ← hO] at HE
  rw [← hP, ← hE]
  clear hP hE hQ hO
  have HC := Lib.hid hc
  clear hc
  obtain ⟨id, ⟨oa, olen, ocap, ol⟩, ia, n, cap, ms, life, want⟩ := c
  have HK := Lib.hid (((Keeps.refl w).alloc (.cells #[.int .i64 id, .slice oa olen ocap, .slice ia n cap, .int .i64 life, .int .i64 want] 39)).alloc (.cells #[.int .i64 0, .slice none 0 0, .slice none 0 0, .int .i64 0, .int .i64 0] 39))
  have HB := Lib.hid ((Box.new w 39 #[.int .i64 id, .slice oa olen ocap, .slice ia n cap, .int .i64 life, .int .i64 want]).next (.cells #[.int .i64 0, .slice none 0 0, .slice none 0 0, .int .i64 0, .int .i64 0] 39))
  have hz := Box.new (w.alloc (.cells #[.int .i64 id, .slice oa olen ocap, .slice ia n cap, .int .i64 life, .int .i64 want] 39)) 39 #[.int .i64 0, .slice none 0 0, .slice none 0 0, .int .i64 0, .int .i64 0]
  rw [World.size_alloc] at hz
  have HZ := Lib.hid hz
  clear hz
  show Calls Try.prog 31 #[.agg #[.int .i64 id, .slice oa olen ocap, .slice ia n cap, .int .i64 life, .int .i64 want]] w _
  go_enter Try.func31, Try.ntmps31
  go_wp2_with fail
  (with_reducible refine (HCH.out _ (by exact HC.out.keeps HK.out)).mono ?_)
  rintro e w1 ⟨rfl, hk1⟩
  replace HB := Lib.hid (HB.out.keeps hk1)
  replace HZ := Lib.hid (HZ.out.keeps hk1)
  replace HK := Lib.hid (HK.out.trans hk1)
  clear hk1
  have z0 := HZ.out.cell 0 _ rfl
  have z1 := HZ.out.cell 1 _ rfl
  have z2 := HZ.out.cell 2 _ rfl
  have z3 := HZ.out.cell 3 _ rfl
  have z4 := HZ.out.cell 4 _ rfl
  have zl := HZ.out.lt
  have zf := HZ.out.frozen
  have b0 := HB.out.cell 0 _ rfl
  have b1 := HB.out.cell 1 _ rfl
  have b2 := HB.out.cell 2 _ rfl
  have b3 := HB.out.cell 3 _ rfl
  have b4 := HB.out.cell 4 _ rfl
  have bl := HB.out.lt
  have bf := HB.out.frozen
  cases O
  · simp only [cond_false] at HP HE ⊢
    obtain rfl : E = 120 := HE.out
    go_wp2_with fail
    refine bodyPost_ret (v := .tuple #[.agg #[.int .i64 0, .slice none 0 0, .slice none 0 0, .int .i64 0, .int .i64 0], .int .i64 120]) (by simp [results, Try.results31, go_sem, *]) rfl ⟨RCni.zero, rfl, HP.out.symm, RCni.zero_own _ _, ?_⟩
    repeat (first | with_reducible exact HK.out | with_reducible refine Keeps.setCell ?_ (by simp <;> omega) _ | with_reducible refine Keeps.alloc ?_ _)
  simp only [cond_true] at HP HE HQ ⊢
  have HOK2 := Lib.hid (HOK.out (by first | rfl | trivial))
  replace HCL := Lib.hid (HCL.out rfl)
  obtain rfl : E = 0 := HE.out
  go_wp2_with fail
  (with_reducible refine (HCL.out _ (by exact HC.out.keeps HK.out)).mono ?_)
  rintro e w2 ⟨⟨xid, ⟨xoa, xolen, xocap, xol⟩, xia, xn, xcap, xms, xlife, xwant⟩, he, hp, ho, hk1⟩
  have he2 : e = .returned (.agg #[.int .i64 xid, .slice xoa xolen xocap, .slice xia xn xcap, .int .i64 xlife, .int .i64 xwant]) := he
  clear he
  subst he2
  have hws := HZ.out.lt
  have HO : Hid (RCni.Own ⟨xid, ⟨xoa, xolen, xocap, xol⟩, xia, xn, xcap, xms, xlife, xwant⟩ w2 (w.heap.size + 1 + 1)) := Lib.hid (ho.mono (by omega))
  have HXP := Lib.hid hp
  replace HB := Lib.hid (HB.out.keeps hk1)
  replace HZ := Lib.hid (HZ.out.keeps hk1)
  replace HK := Lib.hid (HK.out.trans hk1)
  clear hk1 hp ho b0 b1 b2 b3 b4 bl bf z0 z1 z2 z3 z4 zl zf
  have z0 := HZ.out.cell 0 _ rfl
  have z1 := HZ.out.cell 1 _ rfl
  have z2 := HZ.out.cell 2 _ rfl
  have z3 := HZ.out.cell 3 _ rfl
  have z4 := HZ.out.cell 4 _ rfl
  have zl := HZ.out.lt
  have zf := HZ.out.frozen
  have b0 := HB.out.cell 0 _ rfl
  have b1 := HB.out.cell 1 _ rfl
  have b2 := HB.out.cell 2 _ rfl
  have b3 := HB.out.cell 3 _ rfl
  have b4 := HB.out.cell 4 _ rfl
  have bl := HB.out.lt
  have bf := HB.out.frozen
  go_upto_region 5 with fail
  obtain ⟨W2, hW2⟩ : ∃ W2, W2 = (((((w2.setCell ⟨w.heap.size, 0, none⟩ (.int .i64 xid)).setCell ⟨w.heap.size, 1, none⟩ (.slice xoa xolen xocap)).setCell ⟨w.heap.size, 2, none⟩ (.slice xia xn xcap)).setCell ⟨w.heap.size, 3, none⟩ (.int .i64 xlife)).setCell ⟨w.heap.size, 4, none⟩ (.int .i64 xwant)) := ⟨_, rfl⟩
  have HO2 : Hid (RCni.Own ⟨xid, ⟨xoa, xolen, xocap, xol⟩, xia, xn, xcap, xms, xlife, xwant⟩ W2 (w.heap.size + 1 + 1)) := Lib.hid (by rw [hW2]; exact HO.out.putC (C := w.heap.size) (by omega) ⟨xid, ⟨xoa, xolen, xocap, xol⟩, xia, xn, xcap, xms, xlife, xwant⟩)
  have HB2 : Hid (Box W2 w.heap.size 39 #[.int .i64 xid, .slice xoa xolen xocap, .slice xia xn xcap, .int .i64 xlife, .int .i64 xwant]) := Lib.hid (by rw [hW2]; exact Box.putC (x := ⟨id, ⟨oa, olen, ocap, ol⟩, ia, n, cap, ms, life, want⟩) HB.out ⟨xid, ⟨xoa, xolen, xocap, xol⟩, xia, xn, xcap, xms, xlife, xwant⟩)
  have HZ2 : Hid (Box W2 (w.heap.size + 1) 39 #[.int .i64 0, .slice none 0 0, .slice none 0 0, .int .i64 0, .int .i64 0]) := Lib.hid (by rw [hW2]; exact (((((HZ.out.keepsBut (KeepsBut.setCell _ w.heap.size 0 (.int .i64 xid)) (by omega)).keepsBut (KeepsBut.setCell _ w.heap.size 1 (.slice xoa xolen xocap)) (by omega)).keepsBut (KeepsBut.setCell _ w.heap.size 2 (.slice xia xn xcap)) (by omega)).keepsBut (KeepsBut.setCell _ w.heap.size 3 (.int .i64 xlife)) (by omega)).keepsBut (KeepsBut.setCell _ w.heap.size 4 (.int .i64 xwant)) (by omega)))
  have HK2 : Hid (Keeps w W2) := Lib.hid (by rw [hW2]; exact HK.out.putC (C := w.heap.size) (Nat.le_refl _) ⟨xid, ⟨xoa, xolen, xocap, xol⟩, xia, xn, xcap, xms, xlife, xwant⟩)
  rw [← hW2]
  have HO := HO2
  have HB := HB2
  have HZ := HZ2
  have HK := HK2
  clear hW2 b0 b1 b2 b3 b4 bl bf z0 z1 z2 z3 z4 zl zf HO2 HB2 HZ2 HK2
  have z0 := HZ.out.cell 0 _ rfl
  have z1 := HZ.out.cell 1 _ rfl
  have z2 := HZ.out.cell 2 _ rfl
  have z3 := HZ.out.cell 3 _ rfl
  have z4 := HZ.out.cell 4 _ rfl
  have zl := HZ.out.lt
  have zf := HZ.out.frozen
  have b0 := HB.out.cell 0 _ rfl
  have b1 := HB.out.cell 1 _ rfl
  have b2 := HB.out.cell 2 _ rfl
  have b3 := HB.out.cell 3 _ rfl
  have b4 := HB.out.cell 4 _ rfl
  have bl := HB.out.lt
  have bf := HB.out.frozen
  obtain ⟨hxl, hxc, hxm, hxg⟩ := HO.out.row
  have HQL : Hid (Q.ms = xms.map RMsg.p ∧ Q.life = xlife) := Lib.hid (by rw [← HXP.out]; exact ⟨rfl, rfl⟩)
  have hq := HOK2.out
  rw [← HQ.out] at hq
  obtain ⟨q1, -, -, q4, -, q6⟩ := hq
  rw [HQL.out.1, List.length_map] at q1
  rw [HQL.out.2] at q4
  simp only at hxl hxc hxm hxg
  obtain ⟨g, hia, hg1, hg2, -, -⟩ := hxg (by omega)
  subst hia
  have HXL := Lib.hid hxl
  have HQ6 : Hid (∀ m ∈ xms.map RMsg.p, 0 ≤ m.2 ∧ m.2 ≤ 255) := Lib.hid (fun m hm => (q6 m (by rw [HQL.out.1]; exact hm)).2)
  have hn4 : 4 ≤ xn ∧ xn ≤ 8 := by omega
  clear hxl q1 q6 hxg
  go_wp2_with fail
  go_loopw [5] (fun i wr => ∃ (k : Nat) (xs : List RMsg), k ≤ xn ∧ i = .int .i64 k ∧ xs.length = xn ∧ Hid (xs.map RMsg.p = agedTo k (xms.map RMsg.p)) ∧ Hid (RCni.Own ⟨xid, ⟨xoa, xolen, xocap, xol⟩, some ⟨g, 0, none⟩, xn, xcap, xs, xlife, xwant⟩ wr (w.heap.size + 1 + 1)) ∧ Hid (Box wr w.heap.size 39 #[.int .i64 xid, .slice xoa xolen xocap, .slice (some ⟨g, 0, none⟩) xn xcap, .int .i64 xlife, .int .i64 xwant]) ∧ Hid (Box wr (w.heap.size + 1) 39 #[.int .i64 0, .slice none 0 0, .slice none 0 0, .int .i64 0, .int .i64 0]) ∧ Hid (Keeps w wr)) (fun i _ => xn - (intOf i).toNat)
  case atStart => exact ⟨0, xms, Nat.zero_le _, rfl, HXL.out, Lib.hid (agedTo_zero _).symm, HO, HB, HZ, HK⟩
  case round =>
    clear HB HZ HK HO z0 z1 z2 z3 z4 zl zf b0 b1 b2 b3 b4 bl bf
    obtain ⟨k, xs, hk, rfl, hxl, HXA, HO2, HB, HZ, HK⟩ := hrel
    by_cases hlt : k < xn
    · obtain ⟨-, -, -, hxg⟩ := HO2.out.row
      obtain ⟨g', hia, -, hg3, hfz, hcell⟩ := hxg (show 0 < xn by omega)
      simp only [Option.some.injEq, Addr.mk.injEq, and_true] at hia
      subst hia
      have hk' : k < xs.length := by omega
      have hkm : k < (xms.map RMsg.p).length := by rw [List.length_map, HXL.out]; exact hlt
      obtain ⟨hc0, hc1⟩ := hcell k hk'
      simp only at hc0 hc1
      have hpk : xs[k].p = (xms.map RMsg.p)[k] := by
        have h := agedTo_get k (xms.map RMsg.p) hkm
        rw [← HXA.out, List.getElem?_map, List.getElem?_eq_getElem hk'] at h
        simpa using h
      have hag := HQ6.out _ (List.getElem_mem hkm)
      rw [← hpk] at hag
      have hag' : 0 ≤ xs[k].age ∧ xs[k].age ≤ 255 := hag
      have HNX : Hid (∀ v : Int, v = min (xs[k].age + 1) 255 → (xs.set k ⟨xs[k].d, v⟩).map RMsg.p = agedTo (k + 1) (xms.map RMsg.p)) := Lib.hid (fun v hv => by
        rw [List.map_set, HXA.out, ← agedTo_set k _ hkm]
        congr 1
        rw [← hpk, hv]; rfl)
      have HNL : Hid (∀ v : Int, (xs.set k ⟨xs[k].d, v⟩).length = xn) := Lib.hid (fun v => by rw [List.length_set]; exact hxl)
      have HAG := Lib.hid (fun v : Int => HO2.out.age rfl hxl k hk' v)
      simp only at HAG
      obtain ⟨x, hx⟩ : ∃ x, x = xs[k] := ⟨_, rfl⟩
      rw [← hx] at hc0 hc1 hag' HNX HNL HAG
      clear hx hcell hpk hag hkm hk' hxl
      obtain ⟨⟨da, dlen, dcap, dl⟩, age⟩ := x
      simp only at hc0 hc1 hag' HNX HNL HAG
      obtain ⟨V, hV⟩ : ∃ V, V = min (age + 1) 255 := ⟨_, rfl⟩
      have hmn : (if (255 : Int) < age + 1 then (255 : Int) else age + 1) = V := by rw [hV]; split <;> omega
      have HNX := Lib.hid (HNX.out V hV)
      have HNL := Lib.hid (HNL.out V)
      have HAG := Lib.hid (HAG.out V)
      have hw1 : IntKind.i64.wrap (age + 1) = age + 1 := by simp [IntKind.wrap, IntKind.bits, IntKind.signed]; omega
      have hk63 : (k : Int) < (xn : Int) := by omega
      clear hV
      have b0 := HB.out.cell 0 _ rfl
      have b1 := HB.out.cell 1 _ rfl
      have b2 := HB.out.cell 2 _ rfl
      have b3 := HB.out.cell 3 _ rfl
      have b4 := HB.out.cell 4 _ rfl
      have bl := HB.out.lt
      go_wp2_with fail
      go_region
      go_wp2_with fail
      go_roundw
      case rel => exact ⟨k + 1, _, by omega, by go_num, HNL.out, HNX, Lib.hid (HAG.out.keeps (Keeps.refl _).drew), Lib.hid ((HB.out.keepsBut (KeepsBut.setCell _ _ _ _) (by omega)).keeps (Keeps.refl _).drew), Lib.hid ((HZ.out.keepsBut (KeepsBut.setCell _ _ _ _) (by omega)).keeps (Keeps.refl _).drew), Lib.hid ((HK.out.setCell (show _ ≤ g by omega) _).drew)⟩
      case measure => simp [intOf]; omega
    · obtain rfl : k = xn := by omega
      have HE2 : Hid (xs.map RMsg.p = (xms.map RMsg.p).map agep) := Lib.hid (by
        rw [HXA.out]
        have := agedTo_all (xms.map RMsg.p)
        rw [List.length_map, HXL.out] at this
        exact this)
      obtain ⟨V, hV⟩ : ∃ V, V = max (xlife - 1) 0 := ⟨_, rfl⟩
      have hmx : (if xlife - 1 < 0 then (0 : Int) else xlife - 1) = V := by rw [hV]; split <;> omega
      have hmx2 : (if xlife < 1 then (0 : Int) else xlife - 1) = V := by rw [hV]; split <;> omega
      have hw1 : IntKind.i64.wrap (xlife - 1) = xlife - 1 := by simp [IntKind.wrap, IntKind.bits, IntKind.signed]; omega
      have HV := Lib.hid hV
      clear hV
      have b0 := HB.out.cell 0 _ rfl
      have b1 := HB.out.cell 1 _ rfl
      have b2 := HB.out.cell 2 _ rfl
      have b3 := HB.out.cell 3 _ rfl
      have b4 := HB.out.cell 4 _ rfl
      have bl := HB.out.lt
      have bf := HB.out.frozen
      have z0 := HZ.out.cell 0 _ rfl
      have z1 := HZ.out.cell 1 _ rfl
      have z2 := HZ.out.cell 2 _ rfl
      have z3 := HZ.out.cell 3 _ rfl
      have z4 := HZ.out.cell 4 _ rfl
      have zl := HZ.out.lt
      have zf := HZ.out.frozen
      go_wp2_with fail
      refine bodyPost_ret (v := .tuple #[.agg #[.int .i64 xid, .slice xoa xolen xocap, .slice (some ⟨g, 0, none⟩) k xcap, .int .i64 V, .int .i64 xwant], .int .i64 0]) (by simp [results, Try.results31, go_sem, *]) rfl ⟨⟨xid, ⟨xoa, xolen, xocap, xol⟩, some ⟨g, 0, none⟩, k, xcap, xs, V, xwant⟩, rfl, ?_, ?_, ?_⟩
      · rw [HP.out, HQL.out.1, HQL.out.2, ← HE2.out, ← HV.out, ← HXP.out]; rfl
      · refine RCni.Own.mono (base := w.heap.size + 1 + 1) (RCni.Own.same (w := wr) (E := wr.heap.size) (RCni.Own.withN (c := ⟨xid, ⟨xoa, xolen, xocap, xol⟩, some ⟨g, 0, none⟩, k, xcap, xs, xlife, xwant⟩) HO2.out V xwant) ?_ (Nat.le_refl _)) (by omega)
        repeat (first | with_reducible exact SameOn.refl _ _ _ | with_reducible refine SameOn.setCell ?_ (by omega) _ _ | with_reducible refine SameOn.alloc ?_ (by simp) _)
      · repeat (first | with_reducible exact HK.out | with_reducible refine Keeps.setCell ?_ (by simp <;> omega) _ | with_reducible refine Keeps.alloc ?_ _)
theorem over_zero (L : List Nat) : over L 0 [] = L := by simp [over]
theorem over_step {n k : Nat} {l : List Nat} (h1 : k < n) (h2 : k < l.length) : (over (List.replicate n 0) 0 (l.take k)).set k l[k] = over (List.replicate n 0) 0 (l.take (k + 1)) := by
  have e : n - k = (n - (k + 1)) + 1 := by omega
  have m1 : min k l.length = k := by omega
  have m2 : min (k + 1) l.length = k + 1 := by omega
  unfold over
  simp only [List.take_zero, List.nil_append, Nat.zero_add, List.length_take, m1, m2]
  rw [List.set_append_right _ _ (by simp; omega), List.drop_replicate, List.drop_replicate, List.take_succ_eq_append_getElem h2, e, List.replicate_succ]
  simp only [List.length_map, List.length_take, m1, Nat.sub_self, List.set_cons_zero]
  rw [List.append_assoc]; rfl
set_option maxRecDepth 100000 in
set_option maxHeartbeats 2000000 in
theorem rsend_any (c : RCni) (long : Int) (w : World) (hc : c.In w) : Calls Try.prog 28 #[c.val, .int .i64 long] w (BytesPost (sendP c.p long) (sendE c.p long) w) := by
  have HCH := Lib.hid (rccheck_any c)
  have HC := Lib.hid hc
  have hol := hc.o.row.1
  clear hc
  have HP : Hid (sendP c.p long = cond (cniOk c.p) (cond (betw long 0 8) (sentL c.p long.toNat) []) []) := Lib.hid rfl
  have HE : Hid (sendE c.p long = cond (cniOk c.p) (cond (betw long 0 8) 0 2) 120) := Lib.hid rfl
  have HS : Hid (∀ n, sentL c.p n = cond (decide (0 < c.life)) (over (List.replicate n 0) 0 (c.o.l.take (min c.o.len n))) (List.replicate n 0)) := Lib.hid (fun n => by rw [← hol]; rfl)
  obtain ⟨P, hP⟩ : ∃ P, P = sendP c.p long := ⟨_, rfl⟩
  obtain ⟨E, hE⟩ : ∃ E, E = sendE c.p long := ⟨_, rfl⟩
  obtain ⟨O, hO⟩ : ∃ O, O = cniOk c.p := ⟨_, rfl⟩
  rw [← hO] at HCH
  rw [← hP, ← hO] at HP
  rw [← hE, ← hO] at HE
  rw [← hP, ← hE]
  clear hP hE hO
  obtain ⟨id, ⟨oa, olen, ocap, ol⟩, ia, n, cap, ms, life, want⟩ := c
  simp only at HS hol
  have HOL := Lib.hid hol
  have ho63 := Nat.le_trans HC.out.o.cap HC.out.o.max
  have HBY := Lib.hid HC.out.o.byte
  simp only at ho63 HBY
  clear hol
  have HBN : Hid (¬ (0 ≤ long ∧ long ≤ 8) → betw long 0 8 = false) := Lib.hid betw_no
  have HBYS : Hid (0 ≤ long ∧ long ≤ 8 → betw long 0 8 = true) := Lib.hid (betw_iff _ _ _).2
  obtain ⟨B, hB⟩ : ∃ B, B = betw long 0 8 := ⟨_, rfl⟩
  rw [← hB] at HP HE HBN HBYS
  clear hB
  have HB := Lib.hid (Box.new w 39 #[.int .i64 id, .slice oa olen ocap, .slice ia n cap, .int .i64 life, .int .i64 want])
  have HK := Lib.hid ((Keeps.refl w).alloc (.cells #[.int .i64 id, .slice oa olen ocap, .slice ia n cap, .int .i64 life, .int .i64 want] 39))
  show Calls Try.prog 28 #[.agg #[.int .i64 id, .slice oa olen ocap, .slice ia n cap, .int .i64 life, .int .i64 want], .int .i64 long] w _
  by_cases t0 : long < 0
  case pos =>
    have d0 : decide (long < 0) = true := decide_eq_true t0
    obtain rfl : B = false := HBN.out (by omega)
    go_enter Try.func28, Try.ntmps28
    go_wp2_with fail
    (with_reducible refine (HCH.out _ (by exact HC.out.keeps HK.out)).mono ?_)
    rintro e w1 ⟨rfl, hk1⟩
    replace HK := Lib.hid (HK.out.trans hk1)
    clear hk1
    cases O
    · simp only [cond_false] at HP HE ⊢
      obtain rfl : E = 120 := HE.out
      go_wp2_with fail
      go_ret2
      exact ⟨RY.zero, rfl, HP.out.symm, RY.zero_in _, HK.out⟩
    simp only [cond_true, cond_false] at HP HE ⊢
    obtain rfl : E = 2 := HE.out
    go_wp2_with fail
    go_ret2
    exact ⟨RY.zero, rfl, HP.out.symm, RY.zero_in _, HK.out⟩
  have d0 : decide (long < 0) = false := decide_eq_false t0
  by_cases t1 : 8 < long
  case pos =>
    have d1 : decide (8 < long) = true := decide_eq_true t1
    obtain rfl : B = false := HBN.out (by omega)
    go_enter Try.func28, Try.ntmps28
    go_wp2_with fail
    (with_reducible refine (HCH.out _ (by exact HC.out.keeps HK.out)).mono ?_)
    rintro e w1 ⟨rfl, hk1⟩
    replace HK := Lib.hid (HK.out.trans hk1)
    clear hk1
    cases O
    · simp only [cond_false] at HP HE ⊢
      obtain rfl : E = 120 := HE.out
      go_wp2_with fail
      go_ret2
      exact ⟨RY.zero, rfl, HP.out.symm, RY.zero_in _, HK.out⟩
    simp only [cond_true, cond_false] at HP HE ⊢
    obtain rfl : E = 2 := HE.out
    go_wp2_with fail
    go_ret2
    exact ⟨RY.zero, rfl, HP.out.symm, RY.zero_in _, HK.out⟩
  have d1 : decide (8 < long) = false := decide_eq_false t1
  obtain rfl : B = true := HBYS.out (by omega)
  obtain ⟨lg, rfl⟩ : ∃ lg : Nat, long = lg := ⟨long.toNat, by omega⟩
  go_enter Try.func28, Try.ntmps28
  go_wp2_with fail
  (with_reducible refine (HCH.out _ (by exact HC.out.keeps HK.out)).mono ?_)
  rintro e w1 ⟨rfl, hk1⟩
  replace HB := Lib.hid (HB.out.keeps hk1)
  replace HK := Lib.hid (HK.out.trans hk1)
  clear hk1
  cases O
  · simp only [cond_false] at HP HE ⊢
    obtain rfl : E = 120 := HE.out
    go_wp2_with fail
    go_ret2
    exact ⟨RY.zero, rfl, HP.out.symm, RY.zero_in _, HK.out⟩
  simp only [cond_true] at HP HE ⊢
  obtain rfl : E = 0 := HE.out
  have HP0 : Hid (P = sentL (RCni.p ⟨id, ⟨oa, olen, ocap, ol⟩, ia, n, cap, ms, life, want⟩) lg) := Lib.hid (by rw [HP.out]; rfl)
  rw [HS.out] at HP0
  clear HP
  have HFIN : Hid (∀ k, (0 < life ∧ k = min olen lg) ∨ (¬ 0 < life ∧ k = 0) → P = over (List.replicate lg 0) 0 (ol.take k)) := Lib.hid (fun k h => by
    rw [HP0.out]
    rcases h with ⟨h1, rfl⟩ | ⟨h1, rfl⟩
    · rw [decide_eq_true h1]; rfl
    · rw [decide_eq_false h1, List.take_zero, over_zero]; rfl)
  clear HP0 HS
  have hmk : ∀ w : World, (Instr.makeSlice 36 (.int .i64 (lg : Int)) (.int .i64 (lg : Int))).run Try.prog w = .ok (.slice (some ⟨w.heap.size, 0, none⟩) lg lg) (w.alloc (.cells (Go.Proofs.Ytcophhdlcjemeaa.zeros .u8 lg) 5)) := fun w => run_make_zeros 36 5 1 .u8 Try.underlying36 infoY lg lg rfl (by omega) (by omega) w
  have HGB := Lib.hid (Blk.zeros w1 .u8 5 lg)
  have HB2 := Lib.hid (HB.out.next (.cells (Go.Proofs.Ytcophhdlcjemeaa.zeros .u8 lg) 5))
  have HK2 := Lib.hid (HK.out.alloc (.cells (Go.Proofs.Ytcophhdlcjemeaa.zeros .u8 lg) 5))
  obtain ⟨Z, hZ⟩ : ∃ Z, Z = Go.Proofs.Ytcophhdlcjemeaa.zeros .u8 lg := ⟨_, rfl⟩
  rw [← hZ] at HGB HB2 HK2
  simp only [← hZ] at hmk
  clear hZ
  have hbl := HB.out.lt
  have b0 := HB.out.cell 0 _ rfl
  have b1 := HB.out.cell 1 _ rfl
  have b2 := HB.out.cell 2 _ rfl
  have b3 := HB.out.cell 3 _ rfl
  have b4 := HB.out.cell 4 _ rfl
  have bl := HB.out.lt
  go_wp2_with fail
  clear b0 b1 b2 b3 b4 bl HB HK
  have hgl : w1.heap.size < (w1.alloc (.cells Z 5)).heap.size := by simp
  obtain ⟨W, hW⟩ : ∃ W, W = w1.alloc (.cells Z 5) := ⟨_, rfl⟩
  rw [← hW] at HGB HB2 HK2 hgl ⊢
  obtain ⟨G, hG⟩ : ∃ G, G = w1.heap.size := ⟨_, rfl⟩
  rw [← hG] at HGB hbl hgl ⊢
  clear hW hG hmk
  go_loopw [8] (fun i wr => ∃ k : Nat, k ≤ olen ∧ k ≤ lg ∧ (k = 0 ∨ 0 < life) ∧ i = .int .i64 k ∧ Hid (Blk wr .u8 5 G (over (List.replicate lg 0) 0 (ol.take k))) ∧ Hid (Box wr w.heap.size 39 #[.int .i64 id, .slice oa olen ocap, .slice ia n cap, .int .i64 life, .int .i64 want]) ∧ Hid (Keeps w wr)) (fun i _ => lg - (intOf i).toNat)
  case atStart => exact ⟨0, Nat.zero_le _, Nat.zero_le _, .inl rfl, rfl, Lib.hid (by rw [List.take_zero, over_zero]; exact HGB.out), HB2, HK2⟩
  case round =>
    clear HGB HB2 HK2
    obtain ⟨k, hko, hkl, hkz, rfl, HGB, HB, HK⟩ := hrel
    have HYL : Hid ((over (List.replicate lg 0) 0 (ol.take k)).length = lg) := Lib.hid (by rw [over_len _ _ _ (by simp; omega)]; simp)
    have HYB : Hid (∀ v ∈ over (List.replicate lg 0) 0 (ol.take k), v < 256) := Lib.hid (over_byte (fun v hv => HBY.out v (List.mem_of_mem_take hv)) (by rw [List.length_take]; omega))
    have b0 := HB.out.cell 0 _ rfl
    have b1 := HB.out.cell 1 _ rfl
    have b2 := HB.out.cell 2 _ rfl
    have b3 := HB.out.cell 3 _ rfl
    have b4 := HB.out.cell 4 _ rfl
    have bl := HB.out.lt
    by_cases h1 : k < lg
    case neg =>
      have HL := Lib.hid (HFIN.out k (by omega))
      have e1 : decide (k < lg) = false := decide_eq_false h1
      have e2 : decide ((k : Int) < (lg : Int)) = false := by simp; omega
      go_wp2_with fail
      go_ret2
      exact ⟨⟨some ⟨G, 0, none⟩, lg, lg, over (List.replicate lg 0) 0 (ol.take k)⟩, rfl, HL.out.symm, ⟨Nat.le_refl _, by show lg ≤ _; omega, HYB.out, HGB.out.row lg HYL.out⟩, HK.out⟩
    have e1 : decide (k < lg) = true := decide_eq_true h1
    have e2 : decide ((k : Int) < (lg : Int)) = true := by simp; omega
    by_cases h2 : k < olen
    case neg =>
      have HL := Lib.hid (HFIN.out k (by omega))
      have e3 : decide (k < olen) = false := decide_eq_false h2
      have e4 : decide ((k : Int) < (olen : Int)) = false := by simp; omega
      go_wp2_with fail
      go_ret2
      exact ⟨⟨some ⟨G, 0, none⟩, lg, lg, over (List.replicate lg 0) 0 (ol.take k)⟩, rfl, HL.out.symm, ⟨Nat.le_refl _, by show lg ≤ _; omega, HYB.out, HGB.out.row lg HYL.out⟩, HK.out⟩
    have e3 : decide (k < olen) = true := decide_eq_true h2
    have e4 : decide ((k : Int) < (olen : Int)) = true := by simp; omega
    by_cases h3 : 0 < life
    case neg =>
      have HL := Lib.hid (HFIN.out k (by omega))
      have e5 : decide (0 < life) = false := decide_eq_false h3
      go_wp2_with fail
      go_ret2
      exact ⟨⟨some ⟨G, 0, none⟩, lg, lg, over (List.replicate lg 0) 0 (ol.take k)⟩, rfl, HL.out.symm, ⟨Nat.le_refl _, by show lg ≤ _; omega, HYB.out, HGB.out.row lg HYL.out⟩, HK.out⟩
    have e5 : decide (0 < life) = true := decide_eq_true h3
    have hrow := HC.out.o.row.keeps HK.out
    simp only at hrow
    obtain ⟨sb, so, hab, hcell⟩ := hrow.addr (by omega)
    subst hab
    have hck := hcell.1 k h2
    have hok : k < ol.length := by rw [HOL.out]; exact h2
    have HST := Lib.hid (over_step (n := lg) (l := ol) h1 hok)
    rw [List.getD_eq_getElem?_getD, List.getElem?_eq_getElem hok, Option.getD_some] at hck
    obtain ⟨v, hv⟩ : ∃ v, v = ol[k] := ⟨_, rfl⟩
    rw [← hv] at hck HST
    have HNB := Lib.hid (HGB.out.put k v v rfl)
    rw [HST.out] at HNB
    have hgc := HGB.out.cell k (by rw [HYL.out]; exact h1)
    have hgf := HGB.out.frozen k
    have hgl2 := HGB.out.lt
    clear hv hrow hcell hok HST HYL HYB
    go_wp2_with fail
    go_roundw
    case rel => exact ⟨k + 1, by omega, by omega, .inr h3, by go_num, HNB, Lib.hid (HB.out.keepsBut (KeepsBut.setCell _ _ _ _) (by omega)), Lib.hid (HK.out.setCell (show w.heap.size ≤ G by omega) _)⟩
    case measure => simp [intOf]; omega
end Go.Proofs.Ytcophhdlcjemeaa
