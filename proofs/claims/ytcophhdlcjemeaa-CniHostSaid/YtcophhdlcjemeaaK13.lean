/- The walks of layer 12, 13: the reference's Clone. -/
import Derived.Test.YtcophhdlcjemeaaK7
import Derived.Deep.RegionLaw
import Derived.Outline
namespace Go.Proofs.Ytcophhdlcjemeaa
open Go.RowKit
set_option linter.unusedVariables false
set_option linter.unusedSimpArgs false
section
variable {P : Program} {w : World}
/-- 'append(nil, xs...)' of numbers, as a step of a region -/
theorem step_copiedN {ops : Array Oper} {o : Oper} {a : Act} {K : Act → World → Prop} {Q : Exit → Act → World → Prop} {E : Prop} (hgd : o.guard = none) (s x : Operand) (t : TypeId)
    (ho : o.op = .call { callee := .builtin .append, args := #[s, x], argTypes := #[t, t] }) (e bytes : Nat) (k : IntKind) (ht : P.underlying t = some (.slice e))
    (hinfo : (P.info? e).map (fun i => (i.zero, i.size, i.bytes)) = some (some (.int k 0), 1, bytes))
    (hs : a.eval s = .slice none 0 0) (ad : Option Addr) (len cap : Nat) (l : List Nat) (hx : a.eval x = .slice ad len cap) (hrow : Row w k ad len l)
    (hlen : len * bytes ≤ 140737488355328) (h63 : len ≤ 9223372036854775807)
    (h : ∀ a' cap' w', Row w' k a' len l → (∀ x, a' = some x → w.heap.size ≤ x.block) → len ≤ cap' → cap' ≤ 9223372036854775807 → Keeps w w' → K (a.put o.dst (.slice a' len cap')) w') :
    if Region.wanted o (yielded ops a.tmps) = true then Oper.wp P o a w K Q else E := by
  have hw : Region.wanted o (yielded ops a.tmps) = true := by simp [Region.wanted, hgd]
  rw [if_pos hw]
  obtain ⟨i, hi, hz0, hz1, hz2⟩ := info_parts hinfo
  have hl := hrow.1
  have key : ∀ (y : Addr), ad = some y → Oper.wp P o a w K Q := by
    intro y hy
    subst hy
    obtain ⟨v', w', hr, hown', hg, -, hat⟩ := run_append_own_at (P := P) w w.heap.size t o.type e i (.int k 0) 1 bytes ht hi hz0 hz1 hz2 rfl (by decide) (.slice none 0 0) 0 [] (World.ownsRow_nil _ _ _ _) y len cap (l.map fun n : Nat => Value.int k n) (by rw [List.length_map]; omega) (fun j u hj => by
        simp only [List.getElem?_map, Option.map_eq_some_iff] at hj
        obtain ⟨z, hz, rfl⟩ := hj
        have hjl : j < l.length := (List.getElem?_eq_some_iff.1 hz).1
        obtain ⟨b, off, hab, hc⟩ := hrow.2 j (by omega)
        cases hab
        rw [List.getD_eq_getElem?_getD, hz] at hc
        by_cases hj0 : j = 0
        · subst hj0; simpa [Addr.add] using hc
        · simpa [Addr.add, hj0] using hc) (fun u hu => by
        simp only [List.mem_map] at hu
        obtain ⟨z, -, rfl⟩ := hu
        rfl) (by unfold maxLen; omega) (by rw [Nat.zero_add]; exact hlen) (Nat.le_refl _)
    have ho' : Own w' w.heap.size e v' (l.map fun n : Nat => Value.int k n) := by
      unfold Own
      have h0 : 0 + len = (l.map fun n : Nat => Value.int k n).length := by rw [List.length_map]; omega
      rw [← h0]
      simpa using hown'
    obtain ⟨a', cap', rfl, h2, h3, h4, h5⟩ := ho'.nums
    rw [hl] at h2 h4 hr
    unfold Oper.wp execOp
    simp only [ho, resolve, invoke, builtin, Sem.run_bind, Sem.run_pure, Result.andThen_ok, List.map_toArray, List.map_cons, List.map_nil, hs, hx, hr]
    exact h a' cap' w' h4 h5 h2 h3 ((Below.refl w.heap.size w).grown hg (Nat.le_refl _) (fun k hk => by simp [Value.ownBlock] at hk))
  cases ad with
  | some y => exact key y rfl
  | none =>
    have h0 : len = 0 := by
      rcases Nat.eq_zero_or_pos len with h0 | h0
      · exact h0
      · obtain ⟨b, off, hab, -⟩ := hrow.2 0 h0
        cases hab
    subst h0
    have hrun := run_append_none (P := P) w t o.type e i cap ht hi
    unfold Oper.wp execOp
    simp only [ho, resolve, invoke, builtin, Sem.run_bind, Sem.run_pure, Result.andThen_ok, List.map_toArray, List.map_cons, List.map_nil, hs, hx, hrun]
    exact h none 0 w hrow (fun x hx => by cases hx) (Nat.le_refl _) (by omega) (Keeps.refl w)
end
/-- 'append(l, x)' of messages, l the call's own, as a step of a region -/
theorem step_pushM {w : World} {ops : Array Oper} {o : Oper} {a : Act} {K : Act → World → Prop} {Q : Exit → Act → World → Prop} {E : Prop} (hgd : o.guard = none) (s x : Operand)
    (ho : o.op = .call { callee := .builtin .append, args := #[s, x], argTypes := #[37, 37] })
    (base : Nat) (v : Value) (xs : List RMsg) (hs : a.eval s = v) (hown : OwnMs w base v xs) (B : Nat) (y : RMsg) (hx : a.eval x = .slice (some ⟨B, 0, none⟩) 1 1) (hB : Box w B 53 #[.slice y.d.a y.d.len y.d.cap, .int .i64 y.age])
    (hy : y.d.In w) (hyf : 0 < y.d.len → ∀ a, y.d.a = some a → v.ownBlock ≠ some a.block) (hn : xs.length + 1 ≤ 1000) (hbase : base ≤ w.heap.size)
    (h : ∀ v' w', OwnMs w' base v' (xs ++ [y]) → w.grownBy w' v.ownBlock → (v'.ownBlock = v.ownBlock ∨ v'.ownBlock = some w.heap.size) → K (a.put o.dst v') w') :
    if Region.wanted o (yielded ops a.tmps) = true then Oper.wp Try.prog o a w K Q else E := by
  have hw : Region.wanted o (yielded ops a.tmps) = true := by simp [Region.wanted, hgd]
  rw [if_pos hw]
  obtain ⟨i, hi, hz0, hz1, hz2⟩ := info_parts infoMsg
  obtain ⟨v', w', hr, hown', hg, -, hat⟩ := run_append_own_at (P := Try.prog) w base 37 o.type 53 i _ 2 32 Try.underlying37 hi hz0 hz1 hz2 rfl (by decide) v xs.length (mcells xs) hown.row ⟨B, 0, none⟩ 1 1 y.cells rfl (fun j u hj => by
      have hc := hB.cell j u (by simpa [RMsg.cells] using hj)
      by_cases hj0 : j = 0
      · subst hj0; simpa [Addr.add] using hc
      · simpa [Addr.add, hj0] using hc) (fun u hu => by
      simp only [RMsg.cells, List.mem_cons, List.not_mem_nil, or_false] at hu
      rcases hu with rfl | rfl <;> rfl) (by unfold maxLen; omega) (by omega) hbase
  unfold Oper.wp execOp
  simp only [ho, resolve, invoke, builtin, Sem.run_bind, Sem.run_pure, Result.andThen_ok, List.map_toArray, List.map_cons, List.map_nil, hs, hx, hr]
  refine h v' w' ⟨?_, fun u hu => ?_, fun u hu h0 b hb => ?_⟩ hg hat
  · rw [List.length_append]
    have hcs : mcells (xs ++ [y]) = mcells xs ++ y.cells := by simp [mcells]
    rw [hcs]
    exact hown'
  · rw [List.mem_append, List.mem_singleton] at hu
    rcases hu with hu | rfl
    · exact (hown.isIn u hu).grown hg (hown.far u hu)
    · exact hy.grown hg hyf
  · have hold : v.ownBlock ≠ some b.block ∧ b.block < w.heap.size := by
      rw [List.mem_append, List.mem_singleton] at hu
      rcases hu with hu | rfl
      · exact ⟨hown.far u hu h0 b hb, (hown.isIn u hu).blk h0 b hb⟩
      · exact ⟨hyf h0 b hb, hy.blk h0 b hb⟩
    rcases hat with he | he
    · rw [he]; exact hold.1
    · rw [he]
      intro e
      simp only [Option.some.injEq] at e
      omega
/-- the reach of an interface's bytes -/
structure Reach12 (c : RCni) : Prop where
  n : c.n ≤ 20
  o : c.o.len ≤ 140737488355328
  m : ∀ x ∈ c.ms, x.d.len ≤ 140737488355328
def ClonePost (p : PCni) (w : World) (e : Ending) (w' : World) : Prop := ∃ c : RCni, e = .returned c.val ∧ c.p = p ∧ c.Own w' w.heap.size ∧ Keeps w w'
set_option maxRecDepth 100000 in
set_option maxHeartbeats 4000000 in
theorem clone12_any (c : RCni) (w : World) (hc : c.In w) (hr : Reach12 c) : Calls Try.prog 27 #[c.val] w (ClonePost c.p w) := by
  have HC := Lib.hid hc
  have HR := Lib.hid hr
  have hcn := hc.m.len
  have hcc := hc.m.hcap
  have hcm := hc.m.hmax
  have h20 := hr.n
  have ho47 := hr.o
  have ho63 := Nat.le_trans hc.o.cap hc.o.max
  have HP := Lib.hid (show c.p = ⟨c.id, c.o.l, c.ms.map RMsg.p, c.life, c.want⟩ from rfl)
  obtain ⟨P, hP⟩ : ∃ P, P = c.p := ⟨_, rfl⟩
  rw [← hP] at HP ⊢
  clear hc hr hP
  obtain ⟨id, ⟨oa, olen, ocap, ol⟩, ia, n, cap, ms, life, want⟩ := c
  simp only at HP hcn hcc hcm h20 ho47 ho63
  have HL := Lib.hid hcn
  clear hcn
  have HK := Lib.hid (((Keeps.refl w).alloc (.cells #[.int .i64 id, .slice oa olen ocap, .slice ia n cap, .int .i64 life, .int .i64 want] 39)).alloc (.cells #[.int .i64 0, .slice none 0 0, .slice none 0 0, .int .i64 0, .int .i64 0] 39))
  have HB := Lib.hid ((Box.new w 39 #[.int .i64 id, .slice oa olen ocap, .slice ia n cap, .int .i64 life, .int .i64 want]).next (.cells #[.int .i64 0, .slice none 0 0, .slice none 0 0, .int .i64 0, .int .i64 0] 39))
  have hz := Box.new (w.alloc (.cells #[.int .i64 id, .slice oa olen ocap, .slice ia n cap, .int .i64 life, .int .i64 want] 39)) 39 #[.int .i64 0, .slice none 0 0, .slice none 0 0, .int .i64 0, .int .i64 0]
  rw [World.size_alloc] at hz
  have HZ := Lib.hid hz
  clear hz
  have HRO := Lib.hid (HC.out.o.row.keeps HK.out)
  have HOB := Lib.hid HC.out.o.byte
  simp only at HRO HOB
  obtain ⟨W0, hW0⟩ : ∃ W0, W0 = (w.alloc (.cells #[.int .i64 id, .slice oa olen ocap, .slice ia n cap, .int .i64 life, .int .i64 want] 39)).alloc (.cells #[.int .i64 0, .slice none 0 0, .slice none 0 0, .int .i64 0, .int .i64 0] 39) := ⟨_, rfl⟩
  have hs0 : W0.heap.size = w.heap.size + 2 := by rw [hW0]; simp
  show Calls Try.prog 27 #[.agg #[.int .i64 id, .slice oa olen ocap, .slice ia n cap, .int .i64 life, .int .i64 want]] w _
  go_enter Try.func27, Try.ntmps27
  go_wp2_with (refine wpList_copied rfl _ _ 36 rfl 5 1 .u8 Try.underlying36 infoY rfl oa olen ocap ol rfl (by exact HRO.out) (by omega) (by omega) ?hmain)
  case hmain =>
    intro ya ycap w1 hyr hyf hyc hym hk1
    rw [← hW0] at hk1
    simp only [← hW0] at HB HZ HK
    have HYI : Hid (RY.In ⟨ya, olen, ycap, ol⟩ w1) := Lib.hid ⟨hyc, hym, HOB.out, hyr⟩
    have HYF : Hid (∀ a, ya = some a → w.heap.size + 2 ≤ a.block) := Lib.hid (fun a ha => by have := hyf a ha; omega)
    replace HB := Lib.hid (HB.out.keeps hk1)
    replace HZ := Lib.hid (HZ.out.keeps hk1)
    replace HK := Lib.hid (HK.out.trans hk1)
    have hw1 : w.heap.size + 2 ≤ w1.heap.size := by have := hk1.size; omega
    clear hyr hyf hyc hym hk1 HRO HOB hW0 hs0
    have b0 := HB.out.cell 0 _ rfl
    have b1 := HB.out.cell 1 _ rfl
    have b2 := HB.out.cell 2 _ rfl
    have b3 := HB.out.cell 3 _ rfl
    have b4 := HB.out.cell 4 _ rfl
    have bl := HB.out.lt
    have bf := HB.out.frozen
    go_wp2_with fail
    have HB2 := Lib.hid ((HB.out.putK 1 (.slice ya olen ycap)).putK 2 (.slice none 0 0))
    have HZ2 := Lib.hid ((HZ.out.keepsBut (KeepsBut.setCell _ w.heap.size 1 (.slice ya olen ycap)) (by omega)).keepsBut (KeepsBut.setCell _ w.heap.size 2 (.slice none 0 0)) (by omega))
    have HK2 := Lib.hid ((HK.out.setCell (show w.heap.size ≤ w.heap.size from Nat.le_refl _) (p := ⟨w.heap.size, 1, none⟩) (.slice ya olen ycap)).setCell (show w.heap.size ≤ w.heap.size from Nat.le_refl _) (p := ⟨w.heap.size, 2, none⟩) (.slice none 0 0))
    have HY2 : Hid (RY.In ⟨ya, olen, ycap, ol⟩ ((w1.setCell ⟨w.heap.size, 1, none⟩ (.slice ya olen ycap)).setCell ⟨w.heap.size, 2, none⟩ (.slice none 0 0))) := Lib.hid ((HYI.out.keepsBut (KeepsBut.setCell _ w.heap.size 1 (.slice ya olen ycap)) (fun h0 a ha => by have := HYF.out a ha; omega)).keepsBut (KeepsBut.setCell _ w.heap.size 2 (.slice none 0 0)) (fun h0 a ha => by have := HYF.out a ha; omega))
    go_loopw [4] (fun i wr => ∃ (k : Nat) (va : Option Addr) (vn vcap : Nat) (xs : List RMsg), k ≤ n ∧ i = .int .i64 k ∧ xs.length = k ∧ Hid (xs.map RMsg.p = (ms.map RMsg.p).take k) ∧ Hid (OwnMs wr (w.heap.size + 2) (.slice va vn vcap) xs) ∧ Hid (∀ x ∈ xs, 0 < x.d.len → ∀ a, x.d.a = some a → w.heap.size + 2 ≤ a.block) ∧ Hid (RY.In ⟨ya, olen, ycap, ol⟩ wr) ∧ Hid (Box wr w.heap.size 39 #[.int .i64 id, .slice ya olen ycap, .slice va vn vcap, .int .i64 life, .int .i64 want]) ∧ Hid (Box wr (w.heap.size + 1) 39 #[.int .i64 0, .slice none 0 0, .slice none 0 0, .int .i64 0, .int .i64 0]) ∧ w.heap.size + 2 ≤ wr.heap.size ∧ Hid (0 < olen → ∀ a, ya = some a → Value.ownBlock (.slice va vn vcap) ≠ some a.block) ∧ Hid (Keeps w wr)) (fun i _ => n - (intOf i).toNat)
    case atStart => exact ⟨0, none, 0, 0, [], Nat.zero_le _, rfl, rfl, Lib.hid (by simp), Lib.hid (OwnMs.nil _ _), Lib.hid (fun x hx => by cases hx), HY2, HB2, HZ2, by simp; omega, Lib.hid (fun _ _ _ => by simp [Value.ownBlock]), HK2⟩
    case round =>
      clear HB HZ HK HYI HB2 HZ2 HK2 HY2 b0 b1 b2 b3 b4 bl bf
      obtain ⟨k, va, vn, vcap, xs, hk, rfl, hxl, HXP, HO, HXF, HYI, HB, HZ, hws, HYO, HK⟩ := hrel
      have b0 := HB.out.cell 0 _ rfl
      have b1 := HB.out.cell 1 _ rfl
      have b2 := HB.out.cell 2 _ rfl
      have b3 := HB.out.cell 3 _ rfl
      have b4 := HB.out.cell 4 _ rfl
      have bl := HB.out.lt
      have bf := HB.out.frozen
      by_cases hlt : k < n
      · obtain ⟨sb, so, hab, hcell⟩ := HC.out.m.addr (show 0 < ms.length by rw [HL.out]; omega)
        simp only at hab
        subst hab
        have hk' : k < ms.length := by rw [HL.out]; exact hlt
        obtain ⟨hc0, hc1⟩ := hcell k hk'
        have hsb : sb < w.heap.size := World.block_lt_of_cell? _ _ hc0
        have HXI := Lib.hid (HC.out.m.isIn _ (List.getElem_mem hk'))
        have HR8 := HR.out.m _ (List.getElem_mem hk')
        have HPK := Lib.hid (show (ms.map RMsg.p).take (k + 1) = (ms.map RMsg.p).take k ++ [ms[k].p] by rw [List.take_succ_eq_append_getElem (by simpa using hk')]; simp)
        obtain ⟨x, hx⟩ : ∃ x, x = ms[k] := ⟨_, rfl⟩
        rw [← hx] at hc0 hc1 HXI HR8 HPK
        clear hx hcell hk'
        obtain ⟨⟨da, dlen, dcap, dl⟩, age⟩ := x
        simp only at hc0 hc1 HXI HR8
        replace hc0 := HK.out.later hc0
        replace hc1 := HK.out.later hc1
        have HDR : Hid (Row wr .u8 da dlen dl) := Lib.hid (HXI.out.row.keeps HK.out)
        have HDB : Hid (∀ v ∈ dl, v < 256) := Lib.hid HXI.out.byte
        have hd63 := Nat.le_trans HXI.out.cap HXI.out.max
        simp only at hd63
        go_wp2_with fail
        go_region_law (first
          | (refine step_copiedN rfl (.const (.slice none 0 0)) (.tmp 24) 36 rfl 5 1 .u8 Try.underlying36 infoY rfl da dlen dcap dl rfl (by first | exact HDR.out | exact HDR.out.keeps (Keeps.refl _).drew) (by omega) hd63 ?_; intro ma mcap w4 hmr hmf hmc hmm hmk; have hkq : Keeps wr w4 := Keeps.trans (show Keeps wr _ by repeat (first | with_reducible exact Keeps.refl _ | with_reducible refine Keeps.drew ?_)) hmk; have hq0 := Keeps.later hkq hc0; have hq1 := Keeps.later hkq hc1; have hq2 := Keeps.later hkq b2; have hqf := (Keeps.frozen hkq w.heap.size 2 bl).trans (bf 2); have hql := hkq.size; have hq3 : w.heap.size < w4.heap.size := (by omega); have hq4 : ¬ w.heap.size = w4.heap.size := (by omega); have HMI : Hid (RY.In ⟨ma, dlen, mcap, dl⟩ w4) := Lib.hid ⟨hmc, hmm, HDB.out, hmr⟩; have HMO : Hid (0 < dlen → ∀ a, ma = some a → Value.ownBlock (.slice va vn vcap) ≠ some a.block) := Lib.hid (fun _ a ha e => by have h1 := (HO.out.lt _ e).2; have h2 : wr.heap.size ≤ a.block := hmf a ha; omega); have HMF : Hid (∀ a, ma = some a → w.heap.size + 2 ≤ a.block) := Lib.hid (fun a ha => by have h2 : wr.heap.size ≤ a.block := hmf a ha; omega); clear hmc hmm hmr hmf)
          | (refine step_pushM rfl (.tmp 19) (.tmp 32) rfl (w.heap.size + 2) (.slice va vn vcap) xs rfl (by exact (HO.out.keeps hkq).keeps ((Keeps.refl _).alloc _)) w4.heap.size ⟨⟨ma, dlen, mcap, dl⟩, age⟩ rfl (by exact Box.new _ _ _) (by exact HMI.out.keeps ((Keeps.refl _).alloc _)) (by exact HMO.out) (by omega) (by simp; omega) ?_; intro v' w5 hown hg hat; obtain ⟨va', vcap', rfl, -, -⟩ := hown.shape; have hbel := (Below.refl (w.heap.size + 2) _).grown hg (by simp; omega) (fun k hk => (HO.out.lt k hk).1); have HB5 := Lib.hid (((HB.out.keeps hkq).next (.cells #[.slice ma dlen mcap, .int .i64 age] 53)).below hbel (by omega)); have hb52 := HB5.out.cell 2 _ rfl; have hb5f := HB5.out.frozen 2; have hb5l := HB5.out.lt))
        all_goals
          have hln : (xs ++ [(⟨⟨ma, dlen, mcap, dl⟩, age⟩ : RMsg)]).length = k + 1 := by simp; omega
          rw [hln] at hown
          have hYA := (HYI.out.keeps hkq).keeps ((Keeps.refl _).alloc (.cells #[.slice ma dlen mcap, .int .i64 age] 53))
          have hY5 := hYA.grown hg HYO.out
          have hYO5 : 0 < olen → ∀ a, ya = some a → Value.ownBlock (.slice va' (k + 1) vcap') ≠ some a.block := fun h0 a ha e => by
            have h1 := HYO.out h0 a ha
            have h2 := hYA.blk h0 a ha
            rw [hln] at hat
            rcases hat with h3 | h3
            · exact h1 (by rw [← h3]; exact e)
            · rw [h3] at e
              simp only [Option.some.injEq] at e
              omega
          have hXF5 : ∀ x ∈ xs ++ [(⟨⟨ma, dlen, mcap, dl⟩, age⟩ : RMsg)], 0 < x.d.len → ∀ a, x.d.a = some a → w.heap.size + 2 ≤ a.block := fun x hx h0 a ha => by
            rw [List.mem_append, List.mem_singleton] at hx
            rcases hx with hx | rfl
            · exact HXF.out x hx h0 a ha
            · exact HMF.out a ha
          have hO5 : OwnMs (w5.setCell ⟨w.heap.size, 2, none⟩ (.slice va' (k + 1) vcap')) (w.heap.size + 2) (.slice va' (k + 1) vcap') (xs ++ [⟨⟨ma, dlen, mcap, dl⟩, age⟩]) := hown.keepsBut (KeepsBut.setCell _ _ _ _) (fun e => by have := (hown.lt _ e).1; omega) (fun x hx h0 a ha => by have := hXF5 x hx h0 a ha; omega)
          have hZ5 := ((((HZ.out.keeps hkq).next (.cells #[.slice ma dlen mcap, .int .i64 age] 53)).below hbel (by omega)).keepsBut (KeepsBut.setCell _ w.heap.size 2 (.slice va' (k + 1) vcap')) (by omega))
          have hK5 := ((((HK.out.trans hkq).alloc (.cells #[.slice ma dlen mcap, .int .i64 age] 53)).below hbel (by omega)).setCell (show w.heap.size ≤ w.heap.size from Nat.le_refl _) (p := ⟨w.heap.size, 2, none⟩) (.slice va' (k + 1) vcap'))
          have hXP5 : (xs ++ [(⟨⟨ma, dlen, mcap, dl⟩, age⟩ : RMsg)]).map RMsg.p = (ms.map RMsg.p).take (k + 1) := by rw [List.map_append, HXP.out, HPK.out]; rfl
          have hs5 : w.heap.size + 2 ≤ (w5.setCell ⟨w.heap.size, 2, none⟩ (.slice va' (k + 1) vcap')).heap.size := by
            have := hbel.size
            simp at this ⊢; omega
          have HQ1 := Lib.hid hO5
          have HQ2 := Lib.hid hXF5
          have HQ3 := Lib.hid (hY5.keepsBut (KeepsBut.setCell _ w.heap.size 2 (.slice va' (k + 1) vcap')) (fun h0 a ha => by have := HYF.out a ha; omega))
          have HQ4 := Lib.hid (HB5.out.putK 2 (.slice va' (k + 1) vcap'))
          have HQ5 := Lib.hid hZ5
          have HQ6 := Lib.hid hYO5
          have HQ7 := Lib.hid hK5
          have HQ8 := Lib.hid hXP5
          have HQ9 := Lib.hid hln
          clear hO5 hXF5 hY5 hYA hZ5 hYO5 hK5 hXP5 hln hown hg hat hbel hb52 hb5f hb5l hq0 hq1 hq2 hqf
          go_wp2_with fail
          go_roundw
          case rel => exact ⟨k + 1, va', k + 1, vcap', _, by omega, by go_num, HQ9.out, HQ8, HQ1, HQ2, HQ3, HQ4, HQ5, hs5, HQ6, HQ7⟩
          case measure => simp [intOf]; omega
      · have HPA : Hid (xs.map RMsg.p = ms.map RMsg.p) := Lib.hid (by rw [HXP.out, List.take_of_length_le (by rw [List.length_map, HL.out]; omega)])
        have HVO : Hid (RCni.Own ⟨id, ⟨ya, olen, ycap, ol⟩, va, vn, vcap, xs, life, want⟩ wr (w.heap.size + 2)) := Lib.hid ⟨HYI.out, HO.out, HYO.out, fun h0 a ha => HYF.out a ha, HXF.out⟩
        have z0 := HZ.out.cell 0 _ rfl
        have z1 := HZ.out.cell 1 _ rfl
        have z2 := HZ.out.cell 2 _ rfl
        have z3 := HZ.out.cell 3 _ rfl
        have z4 := HZ.out.cell 4 _ rfl
        have zl := HZ.out.lt
        have zf := HZ.out.frozen
        go_wp2_with fail
        refine bodyPost_ret (v := .agg #[.int .i64 id, .slice ya olen ycap, .slice va vn vcap, .int .i64 life, .int .i64 want]) (by simp [results, Try.results27, go_sem, *]) rfl ⟨⟨id, ⟨ya, olen, ycap, ol⟩, va, vn, vcap, xs, life, want⟩, rfl, ?_, ?_, ?_⟩
        · rw [HP.out, ← HPA.out]; rfl
        · refine RCni.Own.mono (base := w.heap.size + 2) (HVO.out.same (E := wr.heap.size) ?_ (Nat.le_refl _)) (by omega)
          repeat (first | with_reducible exact SameOn.refl _ _ _ | with_reducible refine SameOn.setCell ?_ (by omega) _ _ | with_reducible refine SameOn.alloc ?_ (by simp) _)
        · repeat (first | with_reducible exact HK.out | with_reducible refine Keeps.setCell ?_ (by simp <;> omega) _ | with_reducible refine Keeps.alloc ?_ _)
end Go.Proofs.Ytcophhdlcjemeaa
