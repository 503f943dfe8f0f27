/- The walks of layer 12, 7: Deliver, Round. -/
import Derived.Test.YtcophhdlcjemeaaK6
import Derived.Deep.RegionHeld3
import Derived.RegionTactic
import Derived.ChangeAlike
import Derived.BigRegion
namespace Go.Proofs.Ytcophhdlcjemeaa
open Go.RowKit
set_option linter.unusedVariables false
set_option linter.unusedSimpArgs false
/-- the blocks of S are as they were -/
def SameS (S : Nat → Prop) (w w' : World) : Prop := ∀ k, S k → w'.heap[k]? = w.heap[k]?
theorem SameS.refl (S : Nat → Prop) (w : World) : SameS S w w := fun _ _ => rfl
theorem SameS.setCell {S : Nat → Prop} {a w : World} (h : SameS S a w) {b : Nat} (hb : ∀ k, S k → k ≠ b) (o : Nat) (u : Value) : SameS S a (w.setCell ⟨b, o, none⟩ u) := fun k hk => by
  rw [show (w.setCell ⟨b, o, none⟩ u).heap[k]? = w.heap[k]? from Below.heap_setCell _ _ _ _ (hb k hk)]; exact h k hk
theorem RY.In.sameS {x : RY} {w w' : World} {S : Nat → Prop} (h : x.In w) (hs : SameS S w w') (hf : 0 < x.len → ∀ a, x.a = some a → S a.block) : x.In w' := by
  refine ⟨h.cap, h.max, h.byte, h.row.1, fun i hi => ?_⟩
  obtain ⟨b, off, hab, hc⟩ := h.row.2 i hi
  refine ⟨b, off, hab, ?_⟩
  rw [World.cell?_of_block (a := ⟨b, off + i, none⟩) (hs b (hf (by omega) _ hab))]
  exact hc
theorem RCni.Own.sameS {c : RCni} {w w' : World} {base : Nat} {S : Nat → Prop} (h : c.Own w base) (hs : SameS S w w') (h1 : ∀ k, Value.ownBlock (.slice c.ia c.n c.cap) = some k → S k) (h2 : 0 < c.o.len → ∀ a, c.o.a = some a → S a.block) (h3 : ∀ x ∈ c.ms, 0 < x.d.len → ∀ a, x.d.a = some a → S a.block) : c.Own w' base := by
  refine ⟨h.o.sameS hs h2, ⟨⟨h.m.row.1, ?_⟩, fun x hx => (h.m.isIn x hx).sameS hs (h3 x hx), h.m.far⟩, h.far, h.fro, h.frm⟩
  rcases h.m.row.2 with hn | ⟨g, cap, cur, hv, hbg, hg, rest⟩
  · exact .inl hn
  · exact .inr ⟨g, cap, cur, hv, hbg, by rw [hs g (h1 g (by rw [hv]; rfl))]; exact hg, rest⟩
/-- bytes lie in no block that holds other cells -/
theorem RY.In.notBox {x : RY} {w : World} {X t : Nat} {c : Array Value} (h : x.In w) (hX : Box w X t c) (hc : ∀ (i : Nat) (v : Value), c[i]? = some v → ∀ z, v ≠ Value.int .u8 z) : 0 < x.len → ∀ a, x.a = some a → a.block ≠ X := by
  intro h0 a ha e
  obtain ⟨b, off, hab, hcell⟩ := h.row.2 0 h0
  rw [hab] at ha
  cases ha
  simp only at e
  subst e
  unfold Box at hX
  simp only [World.cell?, hX, Option.bind_some] at hcell
  simp at hcell
  exact hc _ _ hcell _ rfl
/-- a row of messages lies in no block of another type -/
theorem OwnMs.notBox {w : World} {base X t : Nat} {v : Value} {c : Array Value} {xs : List RMsg} (h : OwnMs w base v xs) (hX : Box w X t c) (ht : t ≠ 53) : ∀ k, v.ownBlock = some k → k ≠ X := by
  intro k hk e
  subst e
  rcases h.row.2 with ⟨hn, -⟩ | ⟨g, cap, cur, rfl, hbg, hg, rest⟩
  · rw [hn] at hk; cases hk
  · simp only [Value.ownBlock, Option.some.injEq] at hk
    subst hk
    unfold Box at hX
    rw [hX] at hg
    simp only [Option.some.injEq, Obj.cells.injEq] at hg
    exact ht hg.2.1
/-- what lies in the interface's own memory lies apart from the boxes of interfaces -/
theorem RCni.Own.boxed {c : RCni} {w w' : World} {base X : Nat} {i l wa : Int} {a b : Option Addr} {n1 n2 m1 m2 : Nat} (h : c.Own w base) (hX : Box w X 39 #[.int .i64 i, .slice a n1 n2, .slice b m1 m2, .int .i64 l, .int .i64 wa]) (hs : SameS (fun k => base ≤ k ∧ k ≠ X) w w') : c.Own w' base := by
  have hc : ∀ (j : Nat) (v : Value), (#[Value.int .i64 i, .slice a n1 n2, .slice b m1 m2, .int .i64 l, .int .i64 wa] : Array Value)[j]? = some v → ∀ z, v ≠ Value.int .u8 z := by
    intro j v hj z e
    subst e
    match j, hj with
    | 0, hj => simp at hj
    | 1, hj => simp at hj
    | 2, hj => simp at hj
    | 3, hj => simp at hj
    | 4, hj => simp at hj
    | j + 5, hj => simp at hj
  refine h.sameS hs (fun k hk => ⟨(h.m.lt k hk).1, h.m.notBox hX (by decide) k hk⟩) (fun h0 a ha => ⟨h.fro h0 a ha, h.o.notBox hX hc h0 a ha⟩) (fun x hx h0 a ha => ⟨h.frm x hx h0 a ha, (h.m.isIn x hx).notBox hX hc h0 a ha⟩)
/-- 'l[i].Age = a' -/
theorem RCni.Own.age {c : RCni} {w : World} {base g : Nat} (h : c.Own w base) (hia : c.ia = some ⟨g, 0, none⟩) (hn : c.ms.length = c.n) (i : Nat) (hi : i < c.ms.length) (v : Int) :
    RCni.Own { c with ms := c.ms.set i ⟨c.ms[i].d, v⟩ } (w.setCell ⟨g, i * 2 + 1, none⟩ (.int .i64 v)) base := by
  have hm := h.m
  rw [hia] at hm
  have hf := h.far
  rw [hia] at hf
  refine ⟨h.o.keepsBut (KeepsBut.setCell _ _ _ _) (fun h0 a ha e => hf h0 a ha (by rw [e]; rfl)), ?_, h.far, h.fro, fun x hx h0 a ha => ?_⟩
  · have := OwnMs.put1 hm hn i hi v
    simp only [hia]
    exact this
  · rcases List.mem_or_eq_of_mem_set hx with hx | rfl
    · exact h.frm x hx h0 a ha
    · exact h.frm _ (List.getElem_mem hi) h0 a ha
/-- 'l[i].Data = d' -/
theorem RCni.Own.dat {c : RCni} {w : World} {base g : Nat} (h : c.Own w base) (hia : c.ia = some ⟨g, 0, none⟩) (hn : c.ms.length = c.n) (i : Nat) (hi : i < c.ms.length) (d : RY) (hd : d.In w) (hb : 0 < d.len → ∀ a, d.a = some a → base ≤ a.block ∧ a.block ≠ g) :
    RCni.Own { c with ms := c.ms.set i ⟨d, c.ms[i].age⟩ } (w.setCell ⟨g, i * 2, none⟩ (.slice d.a d.len d.cap)) base := by
  have hm := h.m
  rw [hia] at hm
  have hf := h.far
  rw [hia] at hf
  refine ⟨h.o.keepsBut (KeepsBut.setCell _ _ _ _) (fun h0 a ha e => hf h0 a ha (by rw [e]; rfl)), ?_, h.far, h.fro, fun x hx h0 a ha => ?_⟩
  · have := OwnMs.put0 hm hn i hi d hd (fun h0 a ha => (hb h0 a ha).2)
    simp only [hia]
    exact this
  · rcases List.mem_or_eq_of_mem_set hx with hx | rfl
    · exact h.frm x hx h0 a ha
    · exact (hb h0 a ha).1
/-- the row of messages of an interface of its own -/
theorem RCni.Own.row {c : RCni} {w : World} {base : Nat} (h : c.Own w base) : c.ms.length = c.n ∧ c.n ≤ c.cap ∧ c.cap ≤ 9223372036854775807 ∧ (0 < c.n → ∃ g, c.ia = some ⟨g, 0, none⟩ ∧ base ≤ g ∧ g < w.heap.size ∧ (∀ j, w.frozen? ⟨g, j, none⟩ = false) ∧
    ∀ i (hi : i < c.ms.length), w.cell? ⟨g, i * 2, none⟩ = some (.slice c.ms[i].d.a c.ms[i].d.len c.ms[i].d.cap) ∧ w.cell? ⟨g, i * 2 + 1, none⟩ = some (.int .i64 c.ms[i].age)) := by
  obtain ⟨a, cap, hv, hm, hg⟩ := h.m.shape
  simp only [Value.slice.injEq] at hv
  obtain ⟨h1, h2, h3⟩ := hv
  refine ⟨h2.symm, by rw [h2, h3]; exact hm.hcap, by rw [h3]; exact hm.hmax, fun h0 => ?_⟩
  obtain ⟨g, hga, hg1, hg2⟩ := hg (by omega)
  have hm' := h.m
  rw [h1, hga] at hm'
  refine ⟨g, by rw [h1, hga], hg1, hg2, hm'.frozen, fun i hi => ?_⟩
  obtain ⟨b, off, hab, k1, k2⟩ := hm.cell i hi
  rw [hga] at hab
  simp only [Option.some.injEq, Addr.mk.injEq, and_true] at hab
  obtain ⟨rfl, rfl⟩ := hab
  exact ⟨by simpa using k1, by simpa using k2⟩
def agep (m : PMsg) : PMsg := (m.1, min (m.2 + 1) 255)
def agedTo (k : Nat) (l : List PMsg) : List PMsg := (l.take k).map agep ++ l.drop k
theorem agedTo_zero (l : List PMsg) : agedTo 0 l = l := by simp [agedTo]
theorem agedTo_all (l : List PMsg) : agedTo l.length l = l.map agep := by simp [agedTo]
theorem agedTo_len (k : Nat) (l : List PMsg) (h : k ≤ l.length) : (agedTo k l).length = l.length := by simp [agedTo]; omega
theorem agedTo_get (k : Nat) (l : List PMsg) (h : k < l.length) : (agedTo k l)[k]? = some l[k] := by
  unfold agedTo
  rw [List.getElem?_append_right (by simp; omega), List.getElem?_drop]
  simp [Nat.min_eq_left (Nat.le_of_lt h), h]
theorem agedTo_set (k : Nat) (l : List PMsg) (h : k < l.length) : (agedTo k l).set k (agep l[k]) = agedTo (k + 1) l := by
  unfold agedTo
  rw [List.set_append_right _ _ (by simp; omega), List.take_succ_eq_append_getElem h, List.map_append]
  have hd : l.drop k = l[k] :: l.drop (k + 1) := List.drop_eq_getElem_cons h
  have hl : k - ((l.take k).map agep).length = 0 := by simp; omega
  rw [hl, hd, List.set_cons_zero]
  simp
def roundP (p : PCni) : PCni := cond (cniOk p) { p with ms := p.ms.map agep, life := max (p.life - 1) 0 } PCni.zero
set_option maxRecDepth 100000 in
set_option maxHeartbeats 4000000 in
theorem round12_any (c : RCni) (w : World) (hc : c.In w) : Calls Try.prog 17 #[c.val] w (CniPost (roundP c.p) (ownE c.p) w) := by
  have HOW : Hid (∀ w, c.In w → Calls Try.prog 59 #[c.val] w (CniPost (ownP c.p) (cond (cniOk c.p) 0 120) w)) := Lib.hid (own_any c)
  have HOK := Lib.hid (fun h => (cniOk_iff c.p).1 h)
  have HQ : Hid (ownP c.p = cond (cniOk c.p) c.p PCni.zero) := Lib.hid rfl
  have HP : Hid (roundP c.p = cond (cniOk c.p) { ownP c.p with ms := (ownP c.p).ms.map agep, life := max ((ownP c.p).life - 1) 0 } PCni.zero) := Lib.hid (by unfold roundP ownP; cases cniOk c.p <;> rfl)
  have HE : Hid (ownE c.p = cond (cniOk c.p) 0 120) := Lib.hid (by unfold ownE; cases cniOk c.p <;> rfl)
  obtain ⟨P, hP⟩ : ∃ P, P = roundP c.p := ⟨_, rfl⟩
  obtain ⟨E, hE⟩ : ∃ E, E = ownE c.p := ⟨_, rfl⟩
  obtain ⟨Q, hQ⟩ : ∃ Q, Q = ownP c.p := ⟨_, rfl⟩
  obtain ⟨O, hO⟩ : ∃ O, O = cniOk c.p := ⟨_, rfl⟩
  rw [← hO, ← hQ] at HOW
  rw [← hO, ← hQ] at HQ
  rw [← hO] at HOK
  rw [← hP, ← hO, ← hQ] at HP
  rw [← hE, ← hO] at HE
  rw [← hP, ← hE]
  clear hP hE hQ hO
  have HC := Lib.hid hc
  clear hc
  obtain ⟨id, ⟨oa, olen, ocap, ol⟩, ia, n, cap, ms, life, want⟩ := c
  have HK := Lib.hid (((Keeps.refl w).alloc (.cells #[.int .i64 id, .slice oa olen ocap, .slice ia n cap, .int .i64 life, .int .i64 want] 39)).alloc (.cells #[.int .i64 0, .slice none 0 0, .slice none 0 0, .int .i64 0, .int .i64 0] 39))
  have HB := Lib.hid ((Box.new w 39 #[.int .i64 id, .slice oa olen ocap, .slice ia n cap, .int .i64 life, .int .i64 want]).next (.cells #[.int .i64 0, .slice none 0 0, .slice none 0 0, .int .i64 0, .int .i64 0] 39))
  have hz := Box.new (w.alloc (.cells #[.int .i64 id, .slice oa olen ocap, .slice ia n cap, .int .i64 life, .int .i64 want] 39)) 39 #[.int .i64 0, .slice none 0 0, .slice none 0 0, .int .i64 0, .int .i64 0]
  rw [World.size_alloc] at hz
  have HZ := Lib.hid hz
  clear hz
  show Calls Try.prog 17 #[.agg #[.int .i64 id, .slice oa olen ocap, .slice ia n cap, .int .i64 life, .int .i64 want]] w _
  cases O
  · simp only [cond_false] at HOW HP HE
    obtain rfl : E = 120 := HE.out
    go_enter Try.func17, Try.ntmps17
    go_wp2_with fail
    (with_reducible refine (HOW.out _ (by exact HC.out.keeps HK.out)).mono ?_)
    rintro e w1 ⟨x, rfl, hp, ho, hk1⟩
    have HO : Hid (RCni.Own x w1 (w.heap.size + 1 + 1)) := Lib.hid (by have h := ho; simp only [World.size_alloc] at h; exact h)
    have HXP := Lib.hid hp
    replace HB := Lib.hid (HB.out.keeps hk1)
    replace HZ := Lib.hid (HZ.out.keeps hk1)
    replace HK := Lib.hid (HK.out.trans hk1)
    have HK1 := HK
    have hwz : w.heap.size + 1 < w1.heap.size := HZ.out.lt
    clear hk1 ho hp
    have z0 := HZ.out.cell 0 _ rfl
    have z1 := HZ.out.cell 1 _ rfl
    have z2 := HZ.out.cell 2 _ rfl
    have z3 := HZ.out.cell 3 _ rfl
    have z4 := HZ.out.cell 4 _ rfl
    have zl := HZ.out.lt
    have zf := HZ.out.frozen
    have b0 := HB.out.cell 0 _ rfl
    have b1 := HB.out.cell 1 _ rfl
    have b2 := HB.out.cell 2 _ rfl
    have b3 := HB.out.cell 3 _ rfl
    have b4 := HB.out.cell 4 _ rfl
    have bl := HB.out.lt
    have bf := HB.out.frozen
    obtain ⟨xid, ⟨xoa, xolen, xocap, xol⟩, xia, xn, xcap, xms, xlife, xwant⟩ := x
    have HX := Lib.hid (Box.new w1 39 #[.int .i64 xid, .slice xoa xolen xocap, .slice xia xn xcap, .int .i64 xlife, .int .i64 xwant])
    replace HB := Lib.hid (HB.out.next (.cells #[.int .i64 xid, .slice xoa xolen xocap, .slice xia xn xcap, .int .i64 xlife, .int .i64 xwant] 39))
    replace HZ := Lib.hid (HZ.out.next (.cells #[.int .i64 xid, .slice xoa xolen xocap, .slice xia xn xcap, .int .i64 xlife, .int .i64 xwant] 39))
    replace HK := Lib.hid (HK.out.alloc (.cells #[.int .i64 xid, .slice xoa xolen xocap, .slice xia xn xcap, .int .i64 xlife, .int .i64 xwant] 39))
    go_wp2_with fail
    refine bodyPost_ret (v := .tuple #[.agg #[.int .i64 0, .slice none 0 0, .slice none 0 0, .int .i64 0, .int .i64 0], .int .i64 120]) (by simp [results, Try.results17, go_sem, *]) rfl ⟨RCni.zero, rfl, HP.out.symm, RCni.zero_own _ _, ?_⟩
    repeat (first | with_reducible exact HK.out | with_reducible exact HK1.out | with_reducible refine Keeps.setCell ?_ (by simp <;> omega) _ | with_reducible refine Keeps.alloc ?_ _)
  simp only [cond_true] at HOW HP HE HQ
  have HOK2 := Lib.hid (HOK.out (by first | rfl | trivial))
  obtain rfl : E = 0 := HE.out
  go_enter Try.func17, Try.ntmps17
  go_wp2_with fail
  (with_reducible refine (HOW.out _ (by exact HC.out.keeps HK.out)).mono ?_)
  rintro e w1 ⟨x, rfl, hp, ho, hk1⟩
  have HO : Hid (RCni.Own x w1 (w.heap.size + 1 + 1)) := Lib.hid (by have h := ho; simp only [World.size_alloc] at h; exact h)
  have HXP := Lib.hid hp
  replace HB := Lib.hid (HB.out.keeps hk1)
  replace HZ := Lib.hid (HZ.out.keeps hk1)
  replace HK := Lib.hid (HK.out.trans hk1)
  have HK1 := HK
  have hwz : w.heap.size + 1 < w1.heap.size := HZ.out.lt
  clear hk1 ho hp
  have z0 := HZ.out.cell 0 _ rfl
  have z1 := HZ.out.cell 1 _ rfl
  have z2 := HZ.out.cell 2 _ rfl
  have z3 := HZ.out.cell 3 _ rfl
  have z4 := HZ.out.cell 4 _ rfl
  have zl := HZ.out.lt
  have zf := HZ.out.frozen
  have b0 := HB.out.cell 0 _ rfl
  have b1 := HB.out.cell 1 _ rfl
  have b2 := HB.out.cell 2 _ rfl
  have b3 := HB.out.cell 3 _ rfl
  have b4 := HB.out.cell 4 _ rfl
  have bl := HB.out.lt
  have bf := HB.out.frozen
  obtain ⟨xid, ⟨xoa, xolen, xocap, xol⟩, xia, xn, xcap, xms, xlife, xwant⟩ := x
  have HX := Lib.hid (Box.new w1 39 #[.int .i64 xid, .slice xoa xolen xocap, .slice xia xn xcap, .int .i64 xlife, .int .i64 xwant])
  replace HB := Lib.hid (HB.out.next (.cells #[.int .i64 xid, .slice xoa xolen xocap, .slice xia xn xcap, .int .i64 xlife, .int .i64 xwant] 39))
  replace HZ := Lib.hid (HZ.out.next (.cells #[.int .i64 xid, .slice xoa xolen xocap, .slice xia xn xcap, .int .i64 xlife, .int .i64 xwant] 39))
  replace HK := Lib.hid (HK.out.alloc (.cells #[.int .i64 xid, .slice xoa xolen xocap, .slice xia xn xcap, .int .i64 xlife, .int .i64 xwant] 39))
  obtain ⟨hxl, hxc, hxm, hxg⟩ := HO.out.row
  have HQL : Hid (Q.ms = xms.map RMsg.p ∧ Q.life = xlife) := Lib.hid (by rw [← HXP.out]; exact ⟨rfl, rfl⟩)
  have hq := HOK2.out
  rw [← HQ.out] at hq
  obtain ⟨q1, -, -, q4, -, q6⟩ := hq
  rw [HQL.out.1, List.length_map] at q1
  rw [HQL.out.2] at q4
  simp only at hxl hxc hxm hxg
  obtain ⟨g, hia, hg1, hg2, -, -⟩ := hxg (by omega)
  subst hia
  have HXL := Lib.hid hxl
  have HQ6 : Hid (∀ m ∈ xms.map RMsg.p, 0 ≤ m.2 ∧ m.2 ≤ 255) := Lib.hid (fun m hm => (q6 m (by rw [HQL.out.1]; exact hm)).2)
  have hn4 : 4 ≤ xn ∧ xn ≤ 8 := by omega
  clear hxl q1 q6
  go_wp2_with fail
  have hb2 : w.heap.size + 1 + 1 ≤ w1.heap.size := hwz
  have HOA : Hid (RCni.Own ⟨xid, ⟨xoa, xolen, xocap, xol⟩, some ⟨g, 0, none⟩, xn, xcap, xms, xlife, xwant⟩ (w1.alloc (.cells #[.int .i64 xid, .slice xoa xolen xocap, .slice (some ⟨g, 0, none⟩) xn xcap, .int .i64 xlife, .int .i64 xwant] 39)) (w.heap.size + 1 + 1)) := Lib.hid (HO.out.same ((SameOn.refl _ _ _).alloc (Nat.le_refl _) _) (Nat.le_refl _))
  go_loopw [19] (fun i wr => ∃ (k : Nat) (xs : List RMsg), k ≤ xn ∧ i = .int .i64 k ∧ xs.length = xn ∧ Hid (xs.map RMsg.p = agedTo k (xms.map RMsg.p)) ∧ Hid (RCni.Own ⟨xid, ⟨xoa, xolen, xocap, xol⟩, some ⟨g, 0, none⟩, xn, xcap, xs, xlife, xwant⟩ wr (w.heap.size + 1 + 1)) ∧ Hid (Box wr w1.heap.size 39 #[.int .i64 xid, .slice xoa xolen xocap, .slice (some ⟨g, 0, none⟩) xn xcap, .int .i64 xlife, .int .i64 xwant]) ∧ Hid (Box wr (w.heap.size + 1) 39 #[.int .i64 0, .slice none 0 0, .slice none 0 0, .int .i64 0, .int .i64 0]) ∧ Hid (Keeps w wr)) (fun i _ => xn - (intOf i).toNat)
  case atStart => exact ⟨0, xms, Nat.zero_le _, rfl, HXL.out, Lib.hid (agedTo_zero _).symm, HOA, HX, HZ, HK⟩
  case round =>
    clear HX HZ HK HOA HB HK1 z0 z1 z2 z3 z4 zl zf b0 b1 b2 b3 b4 bl bf
    obtain ⟨k, xs, hk, rfl, hxl, HXA, HO2, HX, HZ, HK⟩ := hrel
    by_cases hlt : k < xn
    · obtain ⟨-, -, -, hxg⟩ := HO2.out.row
      obtain ⟨g', hia, -, hg3, hfz, hcell⟩ := hxg (show 0 < xn by omega)
      simp only [Option.some.injEq, Addr.mk.injEq, and_true] at hia
      subst hia
      have hk' : k < xs.length := by omega
      have hkm : k < (xms.map RMsg.p).length := by rw [List.length_map, HXL.out]; exact hlt
      obtain ⟨hc0, hc1⟩ := hcell k hk'
      simp only at hc0 hc1
      have hpk : xs[k].p = (xms.map RMsg.p)[k] := by
        have h := agedTo_get k (xms.map RMsg.p) hkm
        rw [← HXA.out, List.getElem?_map, List.getElem?_eq_getElem hk'] at h
        simpa using h
      have hag := HQ6.out _ (List.getElem_mem hkm)
      rw [← hpk] at hag
      have hag' : 0 ≤ xs[k].age ∧ xs[k].age ≤ 255 := hag
      have HNX : Hid (∀ v : Int, v = min (xs[k].age + 1) 255 → (xs.set k ⟨xs[k].d, v⟩).map RMsg.p = agedTo (k + 1) (xms.map RMsg.p)) := Lib.hid (fun v hv => by
        rw [List.map_set, HXA.out, ← agedTo_set k _ hkm]
        congr 1
        rw [← hpk, hv]; rfl)
      have HNL : Hid (∀ v : Int, (xs.set k ⟨xs[k].d, v⟩).length = xn) := Lib.hid (fun v => by rw [List.length_set]; exact hxl)
      have HAG := Lib.hid (fun v : Int => HO2.out.age rfl hxl k hk' v)
      simp only at HAG
      have hgx : g < w1.heap.size := hg2
      obtain ⟨x, hx⟩ : ∃ x, x = xs[k] := ⟨_, rfl⟩
      rw [← hx] at hc0 hc1 hag' HNX HNL HAG
      clear hx hcell hpk hag hkm hk' hxl
      obtain ⟨⟨da, dlen, dcap, dl⟩, age⟩ := x
      simp only at hc0 hc1 hag' HNX HNL HAG
      obtain ⟨V, hV⟩ : ∃ V, V = min (age + 1) 255 := ⟨_, rfl⟩
      have hmn : (if (255 : Int) < age + 1 then (255 : Int) else age + 1) = V := by rw [hV]; split <;> omega
      have HNX := Lib.hid (HNX.out V hV)
      have HNL := Lib.hid (HNL.out V)
      have HAG := Lib.hid (HAG.out V)
      have hw1 : IntKind.i64.wrap (age + 1) = age + 1 := by simp [IntKind.wrap, IntKind.bits, IntKind.signed]; omega
      have hk63 : (k : Int) < (xn : Int) := by omega
      clear hV
      have x0 := HX.out.cell 0 _ rfl
      have x1 := HX.out.cell 1 _ rfl
      have x2 := HX.out.cell 2 _ rfl
      have x3 := HX.out.cell 3 _ rfl
      have x4 := HX.out.cell 4 _ rfl
      have xl := HX.out.lt
      go_wp2_with fail
      go_region
      go_wp2_with fail
      go_roundw
      case rel => exact ⟨k + 1, _, by omega, by go_num, HNL.out, HNX, Lib.hid (HAG.out.keeps (Keeps.refl _).drew), Lib.hid ((HX.out.keepsBut (KeepsBut.setCell _ _ _ _) (by omega)).keeps (Keeps.refl _).drew), Lib.hid ((HZ.out.keepsBut (KeepsBut.setCell _ _ _ _) (by omega)).keeps (Keeps.refl _).drew), Lib.hid ((HK.out.setCell (show _ ≤ g by omega) _).drew)⟩
      case measure => simp [intOf]; omega
    · obtain rfl : k = xn := by omega
      have HE2 : Hid (xs.map RMsg.p = (xms.map RMsg.p).map agep) := Lib.hid (by
        rw [HXA.out]
        have := agedTo_all (xms.map RMsg.p)
        rw [List.length_map, HXL.out] at this
        exact this)
      obtain ⟨V, hV⟩ : ∃ V, V = max (xlife - 1) 0 := ⟨_, rfl⟩
      have hmx : (if xlife - 1 < 0 then (0 : Int) else xlife - 1) = V := by rw [hV]; split <;> omega
      have hmx2 : (if xlife < 1 then (0 : Int) else xlife - 1) = V := by rw [hV]; split <;> omega
      have hw1 : IntKind.i64.wrap (xlife - 1) = xlife - 1 := by simp [IntKind.wrap, IntKind.bits, IntKind.signed]; omega
      have HV := Lib.hid hV
      clear hV
      have x0 := HX.out.cell 0 _ rfl
      have x1 := HX.out.cell 1 _ rfl
      have x2 := HX.out.cell 2 _ rfl
      have x3 := HX.out.cell 3 _ rfl
      have x4 := HX.out.cell 4 _ rfl
      have xl := HX.out.lt
      have xf := HX.out.frozen
      have z0 := HZ.out.cell 0 _ rfl
      have z1 := HZ.out.cell 1 _ rfl
      have z2 := HZ.out.cell 2 _ rfl
      have z3 := HZ.out.cell 3 _ rfl
      have z4 := HZ.out.cell 4 _ rfl
      have zl := HZ.out.lt
      have zf := HZ.out.frozen
      go_wp2_with fail
      refine bodyPost_ret (v := .tuple #[.agg #[.int .i64 xid, .slice xoa xolen xocap, .slice (some ⟨g, 0, none⟩) k xcap, .int .i64 V, .int .i64 xwant], .int .i64 0]) (by simp [results, Try.results17, go_sem, *]) rfl ⟨⟨xid, ⟨xoa, xolen, xocap, xol⟩, some ⟨g, 0, none⟩, k, xcap, xs, V, xwant⟩, rfl, ?_, ?_, ?_⟩
      · rw [HP.out, HQL.out.1, HQL.out.2, ← HE2.out, ← HV.out, ← HXP.out]; rfl
      · refine RCni.Own.mono (base := w.heap.size + 1 + 1) (RCni.Own.withN (c := ⟨xid, ⟨xoa, xolen, xocap, xol⟩, some ⟨g, 0, none⟩, k, xcap, xs, xlife, xwant⟩) (RCni.Own.boxed HO2.out HX.out ?_) V xwant) (by omega)
        repeat (first | with_reducible exact SameS.refl _ _ | with_reducible refine SameS.setCell ?_ (fun k hk => by omega) _ _)
      · repeat (first | with_reducible exact HK.out | with_reducible refine Keeps.setCell ?_ (by simp <;> omega) _ | with_reducible refine Keeps.drew ?_)
end Go.Proofs.Ytcophhdlcjemeaa
