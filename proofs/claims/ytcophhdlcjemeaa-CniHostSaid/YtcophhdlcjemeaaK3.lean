/- The walks of layer 12, 3: an interface in memory of its own. -/
import Derived.Test.YtcophhdlcjemeaaK2
import Derived.Test.YtcophhdlcjemeaaA2
import Derived.Laws.CopyOwn
namespace Go.Proofs.Ytcophhdlcjemeaa
open Go.RowKit
set_option linter.unusedVariables false
set_option linter.unusedSimpArgs false
section
variable {P : Program} {w : World}
theorem run_copy_rows (dT sT ty elem : TypeId) (g dLen dCap : Nat) (a : Addr) (sLen sCap size : Nat) (cur : Array Value) (t : TypeId) (cs : List Value)
    (hu : P.underlying dT = some (.slice elem)) (hs : (P.info? elem).map (·.size) = some size)
    (hg : w.heap[g]? = some (.cells cur t (0, 0))) (hn : cs.length = Nat.min sLen dLen * size)
    (hsrc : ∀ j v, cs[j]? = some v → w.cell? (a.add j) = some v) (hfit : cs.length ≤ cur.size) (h1 : ∀ v ∈ cs, v.oneCell' = true) :
    (Builtin.copy_ #[dT, sT] ty #[.slice (some ⟨g, 0, none⟩) dLen dCap, .slice (some a) sLen sCap]).run P w =
      .ok (goInt (Nat.min sLen dLen : Nat)) (w.setRow g (cs ++ cur.toList.drop cs.length).toArray) := by
  have hl := run_loadCells_list (P := P) w a cs hsrc
  have hst := run_storeCells_at P g 0 t cs 0 cur w hg (by simpa using hfit) h1
  cases hq : P.info? elem with
  | none => simp [hq] at hs
  | some i =>
    have hi : i.size = size := by simpa [hq] using hs
    rw [hn] at hl
    simp [Builtin.copy_, run_underlying hu, Builtin.lenOf, Builtin.firstCells, sizeOf, typeInfo, hq, hi, hl, hst]
/-- 'copy(l, m)', l the call's own, of as many elements as it has -/
theorem wpList_copy_rows {ops : Array Oper} {rest : List Oper} {o : Oper} {a : Act} {Q : Exit → Act → World → Prop} (hgd : o.guard = none) (d s : Operand) (dT sT : TypeId)
    (ho : o.op = .call { callee := .builtin .copy, args := #[d, s], argTypes := #[dT, sT] }) (elem size : Nat) (hu : P.underlying dT = some (.slice elem)) (hsz : (P.info? elem).map (·.size) = some size)
    (g n dCap : Nat) (ad : Addr) (sCap : Nat) (hd : a.eval d = .slice (some ⟨g, 0, none⟩) n dCap) (hs : a.eval s = .slice (some ad) n sCap)
    (cur : List Value) (t : TypeId) (hg : Box w g t cur.toArray) (cs : List Value) (hn : cs.length = n * size) (hcur : cur.length = n * size)
    (hsrc : ∀ j v, cs[j]? = some v → w.cell? (ad.add j) = some v) (h1 : ∀ v ∈ cs, v.oneCell' = true)
    (h : ∀ w', Box w' g t cs.toArray → KeepsBut g w w' → wpList P ops Q rest (a.put o.dst (goInt (n : Nat))) w') : wpList P ops Q (o :: rest) a w := by
  refine wpList_plain hgd fun K hK => ?_
  have hmin : Nat.min n n = n := Nat.min_self n
  have hrun := run_copy_rows (P := P) (w := w) dT sT o.type elem g n dCap ad n sCap size cur.toArray t cs hu hsz hg (by rw [hmin]; exact hn) hsrc (by simp; omega) h1
  rw [hmin] at hrun
  have hdrop : cs ++ cur.toArray.toList.drop cs.length = cs := by
    rw [List.drop_of_length_le (by simp; omega), List.append_nil]
  rw [hdrop] at hrun
  unfold Oper.wp
  simp [execOp, ho, resolve, invoke, builtin, hd, hs, hrun, Result.andThen]
  exact hK _ _ (h _ (by unfold Box; rw [setRow_heap w g _ _ t _ hg]) ⟨rfl, rfl, rfl, by simp [World.setRow], fun i _ hi => setRow_other w g i _ hi⟩)
theorem ownsRow_box {base e size g n : Nat} {xs : List Value} (h : w.ownsRow base e size (.slice (some ⟨g, 0, none⟩) n n) n xs) : Box w g e xs.toArray ∧ base ≤ g ∧ n ≤ 9223372036854775807 := by
  have hl := h.1
  rcases h.2 with ⟨h', _⟩ | ⟨g', cap', cur, h', hb, hg, hnc, hcm, hcs, htake⟩
  · simp at h'
  · simp only [Value.slice.injEq, Option.some.injEq, Addr.mk.injEq, and_true, true_and] at h'
    obtain ⟨rfl, rfl⟩ := h'
    refine ⟨?_, hb, by unfold maxLen at hcm; omega⟩
    unfold Box
    rw [hg, ← htake, List.take_of_length_le (by simp; omega)]
end
theorem OwnMs.ofBox {w : World} {base g : Nat} {xs : List RMsg} (h : Box w g 53 (mcells xs).toArray) (hb : base ≤ g) (hm : xs.length ≤ 9223372036854775807) (hi : ∀ x ∈ xs, x.d.In w) (hf : ∀ x ∈ xs, 0 < x.d.len → ∀ a, x.d.a = some a → a.block ≠ g) :
    OwnMs w base (.slice (some ⟨g, 0, none⟩) xs.length xs.length) xs := by
  refine ⟨⟨mcells_length xs, .inr ⟨g, xs.length, (mcells xs).toArray, rfl, hb, h, Nat.le_refl _, by unfold maxLen; omega, by simpa using mcells_length xs, ?_⟩⟩, hi, fun x hx h0 a ha e => ?_⟩
  · rw [List.take_of_length_le (by simp [mcells_length])]
  · simp only [Value.ownBlock, Option.some.injEq] at e
    exact hf x hx h0 a ha e.symm
theorem OwnMs.frozen {w : World} {base g n cap : Nat} {xs : List RMsg} (h : OwnMs w base (.slice (some ⟨g, 0, none⟩) n cap) xs) : ∀ j, w.frozen? ⟨g, j, none⟩ = false := by
  intro j
  rcases h.row.2 with ⟨h', _⟩ | ⟨g', cap', cur, h', hb, hg, -⟩
  · simp at h'
  · simp only [Value.slice.injEq, Option.some.injEq, Addr.mk.injEq, and_true, true_and] at h'
    obtain ⟨rfl, -⟩ := h'
    simp [World.frozen?, hg]
theorem mcells_src {w : World} {b off n cap : Nat} {xs : List RMsg} (h : RMss w (some ⟨b, off, none⟩) n cap xs) : ∀ j v, (mcells xs)[j]? = some v → w.cell? ((⟨b, off, none⟩ : Addr).add j) = some v := by
  intro j v hj
  have hl := (List.getElem?_eq_some_iff.1 hj).1
  rw [mcells_length] at hl
  have hi : j / 2 < xs.length := by omega
  obtain ⟨b', off', hab, h0, h1⟩ := h.cell (j / 2) hi
  simp only [Option.some.injEq, Addr.mk.injEq, and_true] at hab
  obtain ⟨rfl, rfl⟩ := hab
  have hadd : (⟨b, off, none⟩ : Addr).add j = ⟨b, off + j, none⟩ := by unfold Addr.add; split <;> simp_all
  rw [hadd]
  rcases Nat.mod_two_eq_zero_or_one j with hm | hm
  · have e : j = j / 2 * 2 + 0 := by omega
    rw [e, mcells_get xs (j / 2) 0 hi (by decide)] at hj
    rw [show off + j = off + j / 2 * 2 by omega, h0]
    simpa [RMsg.cells] using hj
  · have e : j = j / 2 * 2 + 1 := by omega
    rw [e, mcells_get xs (j / 2) 1 hi (by decide)] at hj
    rw [show off + j = off + j / 2 * 2 + 1 by omega, h1]
    simpa [RMsg.cells] using hj
theorem mcells_one (xs : List RMsg) : ∀ v ∈ mcells xs, v.oneCell' = true := by
  intro v hv
  unfold mcells at hv
  obtain ⟨x, -, hx⟩ := List.mem_flatMap.1 hv
  simp only [RMsg.cells, List.mem_cons, List.not_mem_nil, or_false] at hx
  rcases hx with rfl | rfl <;> rfl
theorem infoMsg : (Try.prog.info? 53).map (fun i => (i.zero, i.size, i.bytes)) = some (some (.agg #[.slice none 0 0, .int .i64 0]), 2, 32) := by kernel_rfl
theorem sizeMsg : (Try.prog.info? 53).map (·.size) = some 2 := by kernel_rfl
/-- what a call answers: an interface of its own, and the error -/
def CniPost (p : PCni) (r : Int) (w : World) (e : Ending) (w' : World) : Prop := ∃ c : RCni, e = .returned (.tuple #[c.val, .int .i64 r]) ∧ c.p = p ∧ c.Own w' w.heap.size ∧ Keeps w w'
set_option maxRecDepth 100000 in
set_option maxHeartbeats 2000000 in
theorem own_no (c : RCni) (w : World) (hc : c.In w) (hok : cniOk c.p = false) : Calls Try.prog 59 #[c.val] w (CniPost PCni.zero 120 w) := by
  have HCH : Hid (∀ w, c.In w → Calls Try.prog 25 #[c.val] w fun e w' => e = .returned (.int .i64 120) ∧ Keeps w w') := Lib.hid (fun w h => by have := ccheck_any c w h; rw [hok] at this; exact this)
  have HC := Lib.hid hc
  clear hc hok
  obtain ⟨id, ⟨oa, olen, ocap, ol⟩, ia, n, cap, ms, life, want⟩ := c
  have HK := Lib.hid (((Keeps.refl w).alloc (.cells #[.int .i64 id, .slice oa olen ocap, .slice ia n cap, .int .i64 life, .int .i64 want] 39)).alloc (.cells #[.int .i64 0, .slice none 0 0, .slice none 0 0, .int .i64 0, .int .i64 0] 39))
  have hz := Box.new (w.alloc (.cells #[.int .i64 id, .slice oa olen ocap, .slice ia n cap, .int .i64 life, .int .i64 want] 39)) 39 #[.int .i64 0, .slice none 0 0, .slice none 0 0, .int .i64 0, .int .i64 0]
  rw [World.size_alloc] at hz
  have HZ := Lib.hid hz
  clear hz
  show Calls Try.prog 59 #[.agg #[.int .i64 id, .slice oa olen ocap, .slice ia n cap, .int .i64 life, .int .i64 want]] w _
  go_enter Try.func59, Try.ntmps59
  go_wp2_with fail
  (with_reducible refine (HCH.out _ (by exact HC.out.keeps HK.out)).mono ?_)
  rintro e w1 ⟨rfl, hk1⟩
  replace HZ := Lib.hid (HZ.out.keeps hk1)
  replace HK := Lib.hid (HK.out.trans hk1)
  clear hk1
  have z0 := HZ.out.cell 0 _ rfl
  have z1 := HZ.out.cell 1 _ rfl
  have z2 := HZ.out.cell 2 _ rfl
  have z3 := HZ.out.cell 3 _ rfl
  have z4 := HZ.out.cell 4 _ rfl
  have zl := HZ.out.lt
  have zf := HZ.out.frozen
  go_wp2_with fail
  refine bodyPost_ret (v := .tuple #[.agg #[.int .i64 0, .slice none 0 0, .slice none 0 0, .int .i64 0, .int .i64 0], .int .i64 120]) (by simp [results, Try.results59, go_sem, *]) rfl ⟨RCni.zero, rfl, rfl, RCni.zero_own _ _, ?_⟩
  repeat (first | with_reducible refine Keeps.setCell ?_ (by simp <;> omega) _)
  exact HK.out
set_option maxRecDepth 100000 in
set_option maxHeartbeats 4000000 in
theorem own_yes (c : RCni) (w : World) (hc : c.In w) (hok : cniOk c.p = true) : Calls Try.prog 59 #[c.val] w (CniPost c.p 0 w) := by
  have HCH : Hid (∀ w, c.In w → Calls Try.prog 25 #[c.val] w fun e w' => e = .returned (.int .i64 0) ∧ Keeps w w') := Lib.hid (fun w h => by have := ccheck_any c w h; rw [hok] at this; exact this)
  have HC := Lib.hid hc
  have hn := hc.m.len
  have hol := hc.o.row.1
  obtain ⟨k1, -, k3, -, -, k6⟩ := (cniOk_iff _).1 hok
  have k6' : ∀ x ∈ c.ms, x.d.l.length ≤ 8 := fun x hx => (k6 x.p (List.mem_map_of_mem hx)).1
  have HP := Lib.hid (show c.p = ⟨c.id, c.o.l, c.ms.map RMsg.p, c.life, c.want⟩ from rfl)
  obtain ⟨P, hP⟩ : ∃ P, P = c.p := ⟨_, rfl⟩
  rw [← hP] at HP ⊢
  clear hc hok hP k6
  obtain ⟨id, ⟨oa, olen, ocap, ol⟩, ia, n, cap, ms, life, want⟩ := c
  simp only [RCni.p, List.length_map] at k1 k3 k6' hn hol HP
  have HL := Lib.hid hn
  have HM8 := Lib.hid k6'
  have hn4 : 4 ≤ n ∧ n ≤ 8 := by omega
  have ho8 : olen ≤ 8 := by omega
  clear hn hol k6' k1 k3
  obtain ⟨sb, so, hab, -⟩ := HC.out.m.addr (show 0 < ms.length by rw [HL.out]; omega)
  simp only at hab
  subst hab
  have HK := Lib.hid (((Keeps.refl w).alloc (.cells #[.int .i64 id, .slice oa olen ocap, .slice (some ⟨sb, so, none⟩) n cap, .int .i64 life, .int .i64 want] 39)).alloc (.cells #[.int .i64 0, .slice none 0 0, .slice none 0 0, .int .i64 0, .int .i64 0] 39))
  have HB := Lib.hid ((Box.new w 39 #[.int .i64 id, .slice oa olen ocap, .slice (some ⟨sb, so, none⟩) n cap, .int .i64 life, .int .i64 want]).next (.cells #[.int .i64 0, .slice none 0 0, .slice none 0 0, .int .i64 0, .int .i64 0] 39))
  have hz := Box.new (w.alloc (.cells #[.int .i64 id, .slice oa olen ocap, .slice (some ⟨sb, so, none⟩) n cap, .int .i64 life, .int .i64 want] 39)) 39 #[.int .i64 0, .slice none 0 0, .slice none 0 0, .int .i64 0, .int .i64 0]
  rw [World.size_alloc] at hz
  have HZ := Lib.hid hz
  clear hz
  show Calls Try.prog 59 #[.agg #[.int .i64 id, .slice oa olen ocap, .slice (some ⟨sb, so, none⟩) n cap, .int .i64 life, .int .i64 want]] w _
  go_enter Try.func59, Try.ntmps59
  go_wp2_with fail
  (with_reducible refine (HCH.out _ (by exact HC.out.keeps HK.out)).mono ?_)
  rintro e w1 ⟨rfl, hk1⟩
  replace HZ := Lib.hid (HZ.out.keeps hk1)
  replace HB := Lib.hid (HB.out.keeps hk1)
  replace HK := Lib.hid (HK.out.trans hk1)
  clear hk1 HCH
  have b0 := HB.out.cell 0 _ rfl
  have b1 := HB.out.cell 1 _ rfl
  have b2 := HB.out.cell 2 _ rfl
  have b3 := HB.out.cell 3 _ rfl
  have b4 := HB.out.cell 4 _ rfl
  have bl := HB.out.lt
  have bf := HB.out.frozen
  obtain ⟨im, him, hz0, hz1, hz2⟩ := info_parts infoMsg
  have hby : im.bytes * n ≤ 281474976710656 := by rw [hz2]; omega
  have HIM := Lib.hid him
  have HI0 := Lib.hid hz0
  have HI1 := Lib.hid hz1
  clear him hz0 hz1 hz2
  have hzlt : w.heap.size + 1 < w1.heap.size := HZ.out.lt
  go_wp2_with (refine wpList_make_full _ rfl _ _ 37 rfl w1.heap.size 53 im _ 2 Try.underlying37 HIM.out HI0.out HI1.out .i64 .i64 (n : Int) (n : Int) n rfl rfl rfl rfl hby (by unfold maxLen; omega) (Nat.le_refl _) ?hmain)
  case hmain =>
    intro w2 hown hgr
    have hk2 : Keeps w1 w2 := (Below.refl w1.heap.size w1).grown hgr (Nat.le_refl _) (fun k hk => by cases hk)
    obtain ⟨hbox, hge, -⟩ := ownsRow_box hown
    have hlc := hown.1
    have HG := Lib.hid hbox
    have HGL := Lib.hid hlc
    have hg2 : w1.heap.size < w2.heap.size := hbox.lt
    replace HZ := Lib.hid (HZ.out.keeps hk2)
    replace HB := Lib.hid (HB.out.keeps hk2)
    have HK2 := Lib.hid (HK.out.trans hk2)
    have hsz := HK.out.size
    have HS := Lib.hid (HC.out.m.keeps HK2.out)
    simp only at HS
    clear hown hgr hk2 hbox hlc hge b0 b1 b2 b3 b4 bl bf HIM HI0 HI1
    have b0 := HB.out.cell 0 _ rfl
    have b1 := HB.out.cell 1 _ rfl
    have b2 := HB.out.cell 2 _ rfl
    have b3 := HB.out.cell 3 _ rfl
    have b4 := HB.out.cell 4 _ rfl
    have bl := HB.out.lt
    have bf := HB.out.frozen
    have HCL := Lib.hid (show (mcells ms).length = n * 2 by rw [mcells_length, HL.out])
    have HBX := Lib.hid HS.out.isIn
    have HO1 := Lib.hid (mcells_one ms)
    have hbl := HB.out.lt
    obtain ⟨G, hG⟩ : ∃ G, G = w1.heap.size := ⟨_, rfl⟩
    rw [← hG] at HG hg2 ⊢
    have hGw : w.heap.size + 1 < G := by rw [hG]; exact hzlt
    clear hG
    go_wp2_with (refine wpList_copy_rows rfl _ _ 37 37 rfl 53 2 Try.underlying37 sizeMsg G n n ⟨sb, so, none⟩ cap rfl rfl _ 53 (by exact HG.out) (mcells ms) HCL.out HGL.out (by exact mcells_src HS.out) HO1.out ?hm2)
    case hm2 =>
      intro w3 hbox hkb
      have hk3 : Keeps w w3 := KeepsBut.keeps HK2.out hkb (by omega)
      have HOW : Hid (OwnMs w3 G (.slice (some ⟨G, 0, none⟩) n n) ms) := Lib.hid (by
        have h := OwnMs.ofBox (base := G) (g := G) (xs := ms) hbox (Nat.le_refl _) (by rw [HL.out]; omega) (fun x hx => (HBX.out x hx).keepsBut hkb (fun h0 a ha e => by have := (HC.out.m.isIn x hx).blk h0 a ha; omega)) (fun x hx h0 a ha e => by have := (HC.out.m.isIn x hx).blk h0 a ha; omega)
        rw [HL.out] at h
        exact h)
      replace HB := Lib.hid (HB.out.keepsBut hkb (by omega))
      replace HZ := Lib.hid (HZ.out.keepsBut hkb (by omega))
      have hwl := hkb.size
      have hgl3 : G < w3.heap.size := by omega
      have HK3 := Lib.hid hk3
      clear hkb hbox hk3 HK2 HK HG HS HBX HO1 HCL HGL b0 b1 b2 b3 b4 bl bf hbl
      go_wp2_with fail
      go_loopw [23] (fun i wr => ∃ (k : Nat) (xs : List RMsg), k ≤ n ∧ i = .int .i64 k ∧ xs.length = n ∧ Hid (xs.map RMsg.p = ms.map RMsg.p) ∧ Hid (∀ x ∈ xs, x.d.len ≤ 8) ∧ Hid (∀ i (hi : i < xs.length), 0 < xs[i].d.len → ∀ a, xs[i].d.a = some a → (a.block < w.heap.size ∧ k ≤ i) ∨ G < a.block) ∧ Hid (OwnMs wr G (.slice (some ⟨G, 0, none⟩) n n) xs) ∧ Hid (Box wr w.heap.size 39 #[.int .i64 id, .slice oa olen ocap, .slice (some ⟨sb, so, none⟩) n cap, .int .i64 life, .int .i64 want]) ∧ Hid (Box wr (w.heap.size + 1) 39 #[.int .i64 0, .slice none 0 0, .slice none 0 0, .int .i64 0, .int .i64 0]) ∧ G < wr.heap.size ∧ Hid (Keeps w wr)) (fun i _ => n - (intOf i).toNat)
      case atStart => exact ⟨0, ms, Nat.zero_le _, rfl, HL.out, Lib.hid rfl, Lib.hid (fun x hx => by have := HM8.out x hx; have h2 := (HC.out.m.isIn x hx).row.1; omega), Lib.hid (fun i hi h0 a ha => .inl ⟨(HC.out.m.isIn _ (List.getElem_mem hi)).blk h0 a ha, Nat.zero_le _⟩), HOW, HB, HZ, hgl3, HK3⟩
      case round =>
        clear HB HZ HOW HK3
        obtain ⟨k, xs, hk, rfl, hxl, HX, HX8, HXF, HOW, HB, HZ, hgl, HK⟩ := hrel
        have HXL := Lib.hid hxl
        by_cases hlt : k < n
        · obtain ⟨ga, gc, hgv, hgm, -⟩ := HOW.out.shape
          simp only [Value.slice.injEq] at hgv
          obtain ⟨rfl, -, rfl⟩ := hgv
          have hk' : k < xs.length := by omega
          obtain ⟨gb, go, hab, hc0, hc1⟩ := hgm.cell k hk'
          simp only [Option.some.injEq, Addr.mk.injEq, and_true] at hab
          obtain ⟨rfl, rfl⟩ := hab
          simp only [Nat.zero_add] at hc0 hc1
          have HXI := Lib.hid (HOW.out.isIn _ (List.getElem_mem hk'))
          have h8 := HX8.out _ (List.getElem_mem hk')
          have HPU := Lib.hid (fun (w' : World) (h : OwnMs w' G (.slice (some ⟨G, 0, none⟩) n n) xs) d hd hf => h.put0 hxl k hk' d hd hf)
          have HPX : Hid (∀ d : RY, d.l = xs[k].d.l → (xs.set k ⟨d, xs[k].age⟩).map RMsg.p = ms.map RMsg.p) := Lib.hid (fun d hd => by
            rw [← HX.out, List.map_set]
            have : RMsg.p ⟨d, xs[k].age⟩ = (xs.map RMsg.p)[k]'(by simpa using hk') := by simp [RMsg.p, hd]
            rw [this, List.set_getElem_self])
          have HPL : Hid (∀ d : RY, d.len ≤ 8 → ∀ x ∈ xs.set k ⟨d, xs[k].age⟩, x.d.len ≤ 8) := Lib.hid (fun d hd x hx => by
            rcases List.mem_or_eq_of_mem_set hx with h | rfl
            · exact HX8.out x h
            · exact hd)
          have HPF : Hid (∀ d : RY, (∀ a, d.a = some a → G < a.block) → ∀ i (hi : i < (xs.set k ⟨d, xs[k].age⟩).length), 0 < (xs.set k ⟨d, xs[k].age⟩)[i].d.len → ∀ a, (xs.set k ⟨d, xs[k].age⟩)[i].d.a = some a → (a.block < w.heap.size ∧ k + 1 ≤ i) ∨ G < a.block) := Lib.hid (fun d hd i hi h0 a ha => by
            rw [List.getElem_set] at h0 ha
            split at ha
            · exact .inr (hd a ha)
            · rename_i hne
              rw [if_neg hne] at h0
              rcases HXF.out i (by simpa using hi) h0 a ha with ⟨h1, h2⟩ | h1
              · exact .inl ⟨h1, by omega⟩
              · exact .inr h1)
          have HSL : Hid (∀ d : RY, (xs.set k ⟨d, xs[k].age⟩).length = n) := Lib.hid (fun d => by rw [List.length_set]; exact hxl)
          obtain ⟨x, hx⟩ : ∃ x, x = xs[k] := ⟨_, rfl⟩
          rw [← hx] at hc0 hc1 HXI h8 HPX HPL HSL HPU HPF
          obtain ⟨⟨da, dlen, dcap, dl⟩, age⟩ := x
          simp only at hc0 hc1 HXI h8 HPX HPL HSL HPU HPF
          have hfz := HOW.out.frozen
          clear hx hgm hk' hxl
          go_wp2_with fail
          (with_reducible refine (cloneY ⟨da, dlen, dcap, dl⟩ _ (by exact HXI.out) (by simp only; omega)).mono ?_)
          rintro e w4 ⟨y, rfl, hyl, hyn, hyi, hyf, hk1⟩
          replace HOW := Lib.hid (HOW.out.keeps hk1)
          have hw4 := hk1.size
          have HOW2 := Lib.hid (HPU.out _ HOW.out y hyi (fun h0 a ha e => by have := hyf a ha; omega))
          replace hc0 := hk1.later hc0
          replace HB := Lib.hid (HB.out.keeps hk1)
          replace HZ := Lib.hid (HZ.out.keeps hk1)
          replace HK := Lib.hid (HK.out.trans hk1)
          clear hfz hc1
          have hfz := HOW.out.frozen
          have HPX := Lib.hid (HPX.out y hyl)
          have HPL := Lib.hid (HPL.out y (by rw [hyn]; omega))
          have HSL := Lib.hid (HSL.out y)
          have HPF := Lib.hid (HPF.out y (fun a ha => by have := hyf a ha; omega))
          obtain ⟨ya, ylen, ycap, yl⟩ := y
          simp only at HOW2 hyn
          subst hyn
          have hG4 : G < w4.heap.size := by omega
          clear hk1 hyl hyi hyf hw4
          go_wp2_with fail
          go_roundw
          case rel => exact ⟨k + 1, _, by omega, by go_num, HSL.out, HPX, HPL, HPF, HOW2, Lib.hid (HB.out.keepsBut (KeepsBut.setCell _ _ _ _) (by omega)), Lib.hid (HZ.out.keepsBut (KeepsBut.setCell _ _ _ _) (by omega)), by simp; omega, Lib.hid (HK.out.setCell (show _ ≤ G by omega) _)⟩
          case measure => simp [intOf]; omega
        · obtain rfl : k = n := by omega
          have HXG : Hid (∀ x ∈ xs, 0 < x.d.len → ∀ a, x.d.a = some a → G < a.block) := Lib.hid (fun x hx h0 a ha => by
            obtain ⟨i, hi, rfl⟩ := List.getElem_of_mem hx
            rcases HXF.out i hi h0 a ha with ⟨h1, h2⟩ | h1
            · exfalso; rw [HXL.out] at hi; omega
            · exact h1)
          have HOC := Lib.hid (show RY.In ⟨oa, olen, ocap, ol⟩ w from HC.out.o)
          have b0 := HB.out.cell 0 _ rfl
          have b1 := HB.out.cell 1 _ rfl
          have b2 := HB.out.cell 2 _ rfl
          have b3 := HB.out.cell 3 _ rfl
          have b4 := HB.out.cell 4 _ rfl
          have bl := HB.out.lt
          have bf := HB.out.frozen
          go_wp2_with fail
          (with_reducible refine (cloneY ⟨oa, olen, ocap, ol⟩ _ (by exact HOC.out.keeps HK.out) (by simp only; omega)).mono ?_)
          rintro e w4 ⟨y, rfl, hyl, hyn, hyi, hyf, hk1⟩
          have HYI := Lib.hid hyi
          have hG4 : ∀ a, y.a = some a → G < a.block := fun a ha => by have := hyf a ha; omega
          have HYF := Lib.hid hG4
          have hw4 := hk1.size
          replace HOW := Lib.hid (HOW.out.keeps hk1)
          replace HB := Lib.hid (HB.out.keeps hk1)
          replace HZ := Lib.hid (HZ.out.keeps hk1)
          replace HK := Lib.hid (HK.out.trans hk1)
          have HYL := Lib.hid hyl
          obtain ⟨ya, ylen, ycap, yl⟩ := y
          simp only at HYI HYF HYL hyn
          subst hyn
          clear hk1 hyl hyi hyf hw4 hG4 b0 b1 b2 b3 b4 bl bf
          have b0 := HB.out.cell 0 _ rfl
          have b1 := HB.out.cell 1 _ rfl
          have b2 := HB.out.cell 2 _ rfl
          have b3 := HB.out.cell 3 _ rfl
          have b4 := HB.out.cell 4 _ rfl
          have bl := HB.out.lt
          have bf := HB.out.frozen
          have z0 := HZ.out.cell 0 _ rfl
          have z1 := HZ.out.cell 1 _ rfl
          have z2 := HZ.out.cell 2 _ rfl
          have z3 := HZ.out.cell 3 _ rfl
          have z4 := HZ.out.cell 4 _ rfl
          have zl := HZ.out.lt
          have zf := HZ.out.frozen
          go_wp2_with fail
          refine bodyPost_ret (v := .tuple #[.agg #[.int .i64 id, .slice ya ylen ycap, .slice (some ⟨G, 0, none⟩) k k, .int .i64 life, .int .i64 want], .int .i64 0]) (by simp [results, Try.results59, go_sem, *]) rfl
            ⟨⟨id, ⟨ya, ylen, ycap, yl⟩, some ⟨G, 0, none⟩, k, k, xs, life, want⟩, rfl, ?_, ⟨?_, ?_, ?_, fun _ a ha => by have := HYF.out a ha; omega, fun x hx h0 a ha => by have := HXG.out x hx h0 a ha; omega⟩, ?_⟩
          · rw [HP.out, ← HX.out, ← HYL.out]; rfl
          · repeat (refine RY.In.keepsBut ?_ (KeepsBut.setCell _ _ _ _) (fun _ a ha => by have := HYF.out a ha; omega))
            exact HYI.out
          · refine OwnMs.mono (base := G) ?_ (by omega)
            have hv0 : Value.ownBlock (.slice (some ⟨G, 0, none⟩) k k) ≠ some w.heap.size := by simp only [Value.ownBlock, ne_eq, Option.some.injEq]; omega
            have hv1 : Value.ownBlock (.slice (some ⟨G, 0, none⟩) k k) ≠ some (w.heap.size + 1) := by simp only [Value.ownBlock, ne_eq, Option.some.injEq]; omega
            have hx0 : ∀ x ∈ xs, 0 < x.d.len → ∀ a, x.d.a = some a → a.block ≠ w.heap.size := fun x hx h0 a ha => by have := HXG.out x hx h0 a ha; omega
            have hx1 : ∀ x ∈ xs, 0 < x.d.len → ∀ a, x.d.a = some a → a.block ≠ w.heap.size + 1 := fun x hx h0 a ha => by have := HXG.out x hx h0 a ha; omega
            repeat (first | refine OwnMs.keepsBut ?_ (KeepsBut.setCell _ _ _ _) hv0 hx0 | refine OwnMs.keepsBut ?_ (KeepsBut.setCell _ _ _ _) hv1 hx1)
            exact HOW.out
          · intro _ a ha e
            simp only [Value.ownBlock, Option.some.injEq] at e
            have := HYF.out a ha
            omega
          · repeat (first | with_reducible refine Keeps.setCell ?_ (by simp <;> omega) _)
            exact HK.out
end Go.Proofs.Ytcophhdlcjemeaa
