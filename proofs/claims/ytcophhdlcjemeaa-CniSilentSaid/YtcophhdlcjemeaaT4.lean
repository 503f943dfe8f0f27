/- The walks of layers 13 and 20: Send; a signal that passes. -/
import Derived.Test.YtcophhdlcjemeaaT3
import Derived.Test.YtcophhdlcjemeaaS2
import Derived.Test.YtcophhdlcjemeaaM14
namespace Go.Proofs.Ytcophhdlcjemeaa
open Go.RowKit
set_option linter.unusedVariables false
set_option linter.unusedSimpArgs false
set_option maxRecDepth 100000 in
set_option maxHeartbeats 1000000 in
theorem rsend_any (m : RMedl) (c : RClk) (w : World) (hm : m.In w) (hc : c.In w) :
    Calls Try.prog 44 #[m.val, c.val] w fun e w' => (∃ x g, e = .returned (.tuple #[.int .i64 x, .int .i64 g]) ∧ g = clkErr m c ∧ (g = 0 → x = c.start + m.gap)) ∧ Keeps w w' := by
  have HM := Lib.hid hm
  have HC := Lib.hid hc
  clear hm hc
  have HCH := Lib.hid (rkcheck_any m c)
  have HOK : Hid (clkErr m c = 0 → (0 ≤ m.gap ∧ m.gap ≤ 1048576 ∧ 0 ≤ c.start ∧ c.start ≤ 1099494850560)) := Lib.hid (fun h => by
    have h1 := medlOk_nums (clkErr_0 h).1
    have h2 := clkOk_nums (clkErr_0 h).2
    omega)
  obtain ⟨E, hE⟩ : ∃ E, E = clkErr m c := ⟨_, rfl⟩
  rw [← hE] at HCH HOK ⊢
  clear hE
  obtain ⟨ca, cc, hcv, hc1, hc2, hc3⟩ := HM.out.c.shape
  obtain ⟨da, dc, hdv, hd1, hd2, hd3⟩ := HC.out.d.shape
  clear hc3 hd3
  obtain ⟨no, sl, ga, wi, dr, de, cv, cs, ma, mn, mc, xs⟩ := m
  obtain ⟨st, so, dv, ds⟩ := c
  simp only at hcv hdv hc1 hd1 HOK
  subst hcv hdv
  have HK := Lib.hid (((Keeps.refl w).alloc (.cells #[.int .i64 no, .int .i64 sl, .int .i64 ga, .int .i64 wi, .int .i64 dr, .int .i64 de, .slice ca cs.length cc, .slice ma mn mc] 25)).alloc (.cells #[.int .i64 st, .int .i64 so, .slice da ds.length dc] 28))
  have HB1 := Lib.hid ((Box.new w 25 #[.int .i64 no, .int .i64 sl, .int .i64 ga, .int .i64 wi, .int .i64 dr, .int .i64 de, .slice ca cs.length cc, .slice ma mn mc]).next (.cells #[.int .i64 st, .int .i64 so, .slice da ds.length dc] 28))
  have hb := Box.new (w.alloc (.cells #[.int .i64 no, .int .i64 sl, .int .i64 ga, .int .i64 wi, .int .i64 dr, .int .i64 de, .slice ca cs.length cc, .slice ma mn mc] 25)) 28 #[.int .i64 st, .int .i64 so, .slice da ds.length dc]
  rw [World.size_alloc] at hb
  have HB2 := Lib.hid hb
  clear hb
  show Calls Try.prog 44 #[.agg #[.int .i64 no, .int .i64 sl, .int .i64 ga, .int .i64 wi, .int .i64 dr, .int .i64 de, .slice ca cs.length cc, .slice ma mn mc], .agg #[.int .i64 st, .int .i64 so, .slice da ds.length dc]] w _
  go_enter Try.func44, Try.ntmps44
  go_wp2_with fail
  with_reducible refine (HCH.out _ (by exact HM.out.keeps HK.out) (by exact HC.out.keeps HK.out)).mono ?_
  rintro e w1 ⟨rfl, hk1⟩
  replace HK := Lib.hid (HK.out.trans hk1)
  replace HB1 := Lib.hid (HB1.out.keeps hk1)
  replace HB2 := Lib.hid (HB2.out.keeps hk1)
  clear hk1 HCH
  have m0 := HB1.out.cell 0 _ rfl
  have m1 := HB1.out.cell 1 _ rfl
  have m2 := HB1.out.cell 2 _ rfl
  have m3 := HB1.out.cell 3 _ rfl
  have m4 := HB1.out.cell 4 _ rfl
  have m5 := HB1.out.cell 5 _ rfl
  have m6 := HB1.out.cell 6 _ rfl
  have m7 := HB1.out.cell 7 _ rfl
  have ml := HB1.out.lt
  have k0 := HB2.out.cell 0 _ rfl
  have k1 := HB2.out.cell 1 _ rfl
  have k2 := HB2.out.cell 2 _ rfl
  have kl := HB2.out.lt
  by_cases hE : E = 0
  · have d0 : (E != 0) = false := by rw [bne_eq_false_iff_eq]; exact hE
    have hb := HOK.out hE
    have hw : IntKind.i64.wrap (st + ga) = st + ga := by simp [IntKind.wrap, IntKind.bits, IntKind.signed]; omega
    subst hE
    go_wp2_with fail
    first
      | (go_ret2; exact ⟨⟨_, _, rfl, rfl, fun _ => rfl⟩, HK.out⟩)
      | (go_quiet (fail); go_wp2_with fail; go_ret2; exact ⟨⟨_, _, rfl, rfl, fun _ => rfl⟩, HK.out.drewN _⟩)
  · have d0 : (E != 0) = true := by rw [bne_iff_ne]; exact hE
    go_wp2_with fail
    go_ret2
    exact ⟨⟨_, _, rfl, rfl, fun h => absurd h hE⟩, HK.out⟩
theorem own_emptyT (w : World) (t : TypeId) : Own (w.alloc (.cells #[] t)) w.heap.size t (.slice (some ⟨w.heap.size, 0, none⟩) 0 0) [] :=
  ⟨rfl, .inr ⟨w.heap.size, 0, #[], rfl, Nat.le_refl _, heap_alloc_new w _, Nat.le_refl _, by decide, rfl, rfl⟩⟩
set_option maxRecDepth 100000 in
set_option maxHeartbeats 1000000 in
theorem cloneU8 (x : RB) (w : World) (hx : x.In w) (hl : 1 ≤ x.len) (hl2 : x.len ≤ 512) :
    Calls Try.prog 60 #[.slice x.a x.len x.cap] w fun e w' => ∃ a cap, e = .returned (.slice a x.len cap) ∧ RB.In ⟨x.n, a, x.len, cap, x.l⟩ w' ∧ RB.Fr ⟨x.n, a, x.len, cap, x.l⟩ w.heap.size ∧ Keeps w w' := by
  have HI := Lib.hid hx
  have hll := hx.row.1
  have hcap := hx.cap
  have hmax := hx.max
  clear hx
  obtain ⟨n, a, len, cap, l⟩ := x
  simp only at hll hl hl2 hcap hmax
  obtain ⟨bb, off, rfl, hcell, hbl⟩ := HI.out.row.addr hl
  simp only at hcell hbl
  have hsrc : ∀ u : World, Keeps w u → ∀ j x, (l.map fun n : Nat => Value.int .u8 n)[j]? = some x → u.cell? ((⟨bb, off, none⟩ : Addr).add j) = some x := by
    intro u hu j x hj
    simp only [List.getElem?_map, Option.map_eq_some_iff] at hj
    obtain ⟨y, hy, rfl⟩ := hj
    have hjl : j < l.length := (List.getElem?_eq_some_iff.1 hy).1
    have h := hu.later (hcell j (by omega))
    rw [List.getD_eq_getElem?_getD, hy] at h
    by_cases hj0 : j = 0
    · subst hj0; simpa [Addr.add] using h
    · simpa [Addr.add, hj0] using h
  have HS := Lib.hid hsrc
  clear hsrc hcell
  have hnil : ∀ w : World, (binOp .eql 36 (.slice (some ⟨bb, off, none⟩) len cap) (.slice none 0 0)).run Try.prog w = .ok (.bool false) w := fun w => by kernel_rfl
  show Calls Try.prog 60 #[.slice (some ⟨bb, off, none⟩) len cap] w _
  go_enter Try.func60, Try.ntmps60
  go_wp2_with (refine wpList_rowT rfl _ _ 36 rfl 5 1 (.int .u8 0) Try.underlying36 info_u8T rfl w.heap.size _ [] rfl (by first | exact own_emptyT _ _ | exact Own.nil _ _ _) ⟨bb, off, none⟩ len cap (l.map fun n : Nat => Value.int .u8 n) rfl (by rw [List.length_map]; exact hll) (by first | exact HS.out _ (Keeps.refl w) | exact HS.out _ ((Keeps.refl w).alloc _)) (by intro u hu; simp only [List.mem_map] at hu; obtain ⟨y, -, rfl⟩ := hu; rfl) (by simp; omega) (by simp; omega) (by simp) ?hmain)
  case hmain =>
    intro v' w1 ho hg hat
    have HK : Keeps w w1 := by
      first
        | exact ((Keeps.refl w).alloc (.cells #[] 5)).below ((Below.refl w.heap.size _).grown hg (by simp) fun k hk => by simp [Value.ownBlock] at hk; omega) (Nat.le_refl _)
        | exact (Below.refl w.heap.size w).grown hg (Nat.le_refl _) (fun k hk => by simp [Value.ownBlock] at hk)
    obtain ⟨a', cap', rfl, hc1, hc2, hrow, hfr⟩ := own_row8 ho
    simp only [hll] at hc1 hrow ⊢
    have hby := HI.out.byte
    have hn1 := HI.out.n1
    have hn2 := HI.out.n2
    simp only at hby hn1 hn2
    go_wp2_with fail
    go_ret
    exact ⟨_, _, rfl, ⟨hn1, hn2, hc1, hc2, hby, hrow⟩, hfr, HK⟩
end Go.Proofs.Ytcophhdlcjemeaa
