/- The walk of the reference of layer 11: Make. -/
import Derived.Test.YtcophhdlcjemeaaT2
import Derived.Test.YtcophhdlcjemeaaM15
import Derived.Deep.RegionHeld3
import Derived.Deep.DeepCutAuto
namespace Go.Proofs.Ytcophhdlcjemeaa
open Go.RowKit
set_option linter.unusedVariables false
set_option linter.unusedSimpArgs false
/-- 'append(l, xs...)', l the call's own -/
theorem wpList_rowT {P : Program} {w : World} {ops : Array Oper} {rest : List Oper} {o : Oper} {a : Act} {Q : Exit → Act → World → Prop} (hgd : o.guard = none) (s x : Operand) (t : TypeId)
    (ho : o.op = .call { callee := .builtin .append, args := #[s, x], argTypes := #[t, t] }) (e bytes : Nat) (z : Value) (ht : P.underlying t = some (.slice e))
    (hinfo : (P.info? e).map (fun i => (i.zero, i.size, i.bytes)) = some (some z, 1, bytes)) (hz : z.cells.size = 1)
    (base : Nat) (v : Value) (xs : List Value) (hs : a.eval s = v) (hown : Own w base e v xs) (ad : Addr) (m c : Nat) (news : List Value) (hx : a.eval x = .slice (some ad) m c) (hl : news.length = m) (hc : ∀ j u, news[j]? = some u → w.cell? (ad.add j) = some u)
    (h1 : ∀ u ∈ news, u.oneCell' = true) (hlen : (xs.length + m) * bytes ≤ 140737488355328) (h63 : xs.length + m ≤ 9223372036854775807) (hbase : base ≤ w.heap.size)
    (h : ∀ v' w', Own w' base e v' (xs ++ news) → w.grownBy w' v.ownBlock → (v'.ownBlock = v.ownBlock ∨ v'.ownBlock = some w.heap.size) → wpList P ops Q rest (a.put o.dst v') w') : wpList P ops Q (o :: rest) a w := by
  obtain ⟨i, hi, hz0, hz1, hz2⟩ := info_parts hinfo
  refine wpList_append_own_at w hgd s x t ho base e i z 1 bytes ht hi hz0 hz1 hz2 hz (by decide) v xs.length xs hs hown ad m c news hx (by omega) hc h1 (by unfold maxLen; omega) hlen hbase ?_
  intro v' w' hown' hg _ hat
  refine h v' w' ?_ hg hat
  unfold Own; rw [List.length_append, hl]; exact hown'
theorem info_u8T : (Try.prog.info? 5).map (fun i => (i.zero, i.size, i.bytes)) = some (some (.int .u8 0), 1, 1) := by kernel_rfl
theorem whole_len {s : RSig} {w : World} (h : wholeOk s = true) (hi : s.b.In w) : chk s.b.n s.b.l = true ∧ s.b.l.length = s.b.len ∧ 1 ≤ s.b.len ∧ s.b.len ≤ 512 := by
  unfold wholeOk sigOk at h
  simp only [Bool.and_eq_true, decide_eq_true_eq] at h
  obtain ⟨⟨h1, h2, h3⟩, h4, h5, h6⟩ := h
  have hr := hi.row.1
  obtain ⟨c0, c1, c2, -⟩ := chk_parts h3
  exact ⟨h3, hr, by omega, by omega⟩
theorem own_row8 {w : World} {base : Nat} {v : Value} {l : List Nat} (h : Own w base 5 v (l.map fun n : Nat => Value.int .u8 n)) :
    ∃ a cap, v = .slice a l.length cap ∧ l.length ≤ cap ∧ cap ≤ 9223372036854775807 ∧ Row w .u8 a l.length l ∧ ∀ x, a = some x → base ≤ x.block := by
  obtain ⟨a, cap, h1, h2, h3, h4⟩ := h.shape
  rw [List.length_map] at h1 h2 h4
  refine ⟨a, cap, h1, h2, h3, ⟨rfl, fun i hi => ?_⟩, fun x hx => ?_⟩
  · obtain ⟨b, off, hab, hc⟩ := h4.2 i hi
    refine ⟨b, off, hab, ?_⟩
    rw [hc]
    simp [List.getElem?_map, List.getElem?_eq_getElem hi, List.getD_eq_getElem?_getD]
  · subst hx h1
    exact (h.lt x.block rfl).1
/-- what Make makes: s, or the error 110 -/
structure MakeRes (fr at_ lv : Int) (x : RB) (B : Nat) (w' : World) (s : RSig) (g : Int) : Prop where
  either : g = 110 ∨ (g = 0 ∧ s.fr = fr ∧ s.f = at_ ∧ s.t = at_ + airI x.n ∧ s.lv = lv ∧ s.b.n = x.n ∧ s.b.l = x.l ∧ wholeOk s = true ∧ s.b.In w' ∧ s.b.Fr B)
set_option maxRecDepth 100000 in
set_option maxHeartbeats 1000000 in
theorem rmake_any (fr at_ lv : Int) (x : RB) (w : World) (hx : x.In w) :
    Calls Try.prog 45 #[.int .i64 fr, .int .i64 at_, .int .i64 lv, x.val] w fun e w' => ∃ s g, e = .returned (.tuple #[s.val, .int .i64 g]) ∧ MakeRes fr at_ lv x w.heap.size w' s g ∧ Keeps w w' := by
  have HI := Lib.hid hx
  clear hx
  obtain ⟨n, a, len, cap, l⟩ := x
  show Calls Try.prog 45 #[.int .i64 fr, .int .i64 at_, .int .i64 lv, .agg #[.int .i64 n, .slice a len cap]] w _
  by_cases t1 : at_ < 0
  · have d1 : decide (at_ < 0) = true := by simpa using t1
    go_enter Try.func45, Try.ntmps45
    go_wp2_with fail
    refine bodyPost_ret (v := .tuple #[.agg #[.int .i64 0, .int .i64 0, .int .i64 0, .int .i64 0, .int .i64 0, .slice none 0 0], .int .i64 110]) (by simp [results, Try.results45, go_sem, *]) rfl ⟨⟨0, 0, 0, 0, ⟨0, none, 0, 0, []⟩⟩, 110, rfl, ⟨.inl rfl⟩, ?_⟩
    repeat (first | with_reducible refine Keeps.setCell ?_ (by simp) _ | with_reducible refine Keeps.alloc ?_ _)
    exact Keeps.refl w
  have d1 : decide (at_ < 0) = false := by simpa using t1
  by_cases t2 : 1099511627776 < at_
  · have d2 : decide (1099511627776 < at_) = true := by simpa using t2
    go_enter Try.func45, Try.ntmps45
    go_wp2_with fail
    refine bodyPost_ret (v := .tuple #[.agg #[.int .i64 0, .int .i64 0, .int .i64 0, .int .i64 0, .int .i64 0, .slice none 0 0], .int .i64 110]) (by simp [results, Try.results45, go_sem, *]) rfl ⟨⟨0, 0, 0, 0, ⟨0, none, 0, 0, []⟩⟩, 110, rfl, ⟨.inl rfl⟩, ?_⟩
    repeat (first | with_reducible refine Keeps.setCell ?_ (by simp) _ | with_reducible refine Keeps.alloc ?_ _)
    exact Keeps.refl w
  have d2 : decide (1099511627776 < at_) = false := by simpa using t2
  go_enter Try.func45, Try.ntmps45
  go_wp2_with fail
  have hAI := airI_le n
  obtain ⟨A, hA⟩ : ∃ A, A = airI n := ⟨_, rfl⟩
  have HA := Lib.hid hA
  have HCA : Hid (∀ w : World, Calls Try.prog 70 #[.int .i64 n] w fun e w' => e = .returned (.int .i64 A) ∧ Keeps w w') := Lib.hid (fun w => by rw [hA]; exact rair_all n w)
  rw [← hA] at hAI
  clear hA
  have HB := Lib.hid ((Box.new w 69 #[.int .i64 n, .slice a len cap]).next (.cells #[.int .i64 0, .int .i64 0, .int .i64 0, .int .i64 0, .int .i64 0, .slice none 0 0] 73))
  have hz := Box.new (w.alloc (.cells #[.int .i64 n, .slice a len cap] 69)) 73 #[.int .i64 0, .int .i64 0, .int .i64 0, .int .i64 0, .int .i64 0, .slice none 0 0]
  rw [World.size_alloc] at hz
  have HZ := Lib.hid hz
  clear hz
  have HK := Lib.hid (((Keeps.refl w).alloc (.cells #[.int .i64 n, .slice a len cap] 69)).alloc (.cells #[.int .i64 0, .int .i64 0, .int .i64 0, .int .i64 0, .int .i64 0, .slice none 0 0] 73))
  have hw : IntKind.i64.wrap (at_ + A) = at_ + A := by simp [IntKind.wrap, IntKind.bits, IntKind.signed]; omega
  have hwl : w.heap.size + 1 < ((w.alloc (.cells #[.int .i64 n, .slice a len cap] 69)).alloc (.cells #[.int .i64 0, .int .i64 0, .int .i64 0, .int .i64 0, .int .i64 0, .slice none 0 0] 73)).heap.size := HZ.out.lt
  obtain ⟨W1, hW1⟩ : ∃ W1, W1 = ((w.alloc (.cells #[.int .i64 n, .slice a len cap] 69)).alloc (.cells #[.int .i64 0, .int .i64 0, .int .i64 0, .int .i64 0, .int .i64 0, .slice none 0 0] 73)) := ⟨_, rfl⟩
  rw [← hW1] at HB HZ HK hwl ⊢
  have a0 : W1.cell? ⟨w.heap.size, 0, none⟩ = some (.int .i64 n) := HB.out.cell 0 _ rfl
  have a1 : W1.cell? ⟨w.heap.size, 1, none⟩ = some (.slice a len cap) := HB.out.cell 1 _ rfl
  have HKN := Lib.hid (Keeps.refl W1)
  clear hW1 d1 d2
  go_upto_region 3 with fail
  go_cut [10] (fun v wx => ∃ g : Nat, v = .pointer (some ⟨g, 0, none⟩) ∧ Hid (Box wx g 73 #[.int .i64 fr, .int .i64 at_, .int .i64 (at_ + A), .int .i64 lv, .int .i64 n, .slice a len cap]) ∧ W1.heap.size ≤ g ∧ Hid (Keeps W1 wx))
  case first =>
    clear HI HB HZ HK HA
    go_region_held3 (fun w' => w'.cell? ⟨w.heap.size, 0, none⟩ = some (.int .i64 n) ∧ w'.cell? ⟨w.heap.size, 1, none⟩ = some (.slice a len cap))
      ((refine ⟨Keeps.later (a := W1) ?_ a0, Keeps.later (a := W1) ?_ a1⟩ <;> repeat (first | with_reducible exact HKN.out | with_reducible refine Keeps.setCell ?_ hng _ | with_reducible refine Keeps.alloc ?_ _ | with_reducible refine Keeps.drew ?_)))
      (first | (go_at_call 70; with_reducible refine (HCA.out _).mono ?_; rintro e u ⟨rfl, hk⟩; have HKM := Lib.hid (Keeps.trans (show Keeps W1 _ by repeat (first | with_reducible exact HKN.out | with_reducible refine Keeps.setCell ?_ hng _ | with_reducible refine Keeps.alloc ?_ _ | with_reducible refine Keeps.drew ?_)) hk); (first | (with_reducible have HNB := Lib.hid (Box.keeps (Box.new _ 73 #[.int .i64 0, .int .i64 0, .int .i64 0, .int .i64 0, .int .i64 0, .slice none 0 0]) hk); have hng := HKN.out.size) | (with_reducible have HNB := Lib.hid (Box.keeps (Box.keeps (Box.new _ 73 #[.int .i64 0, .int .i64 0, .int .i64 0, .int .i64 0, .int .i64 0, .slice none 0 0]) ((Keeps.refl _).drew)) hk); have hng := HKN.out.size) | skip); (first | (have hnb := HNB.out; have g0 := hnb.cell 0 _ rfl; have g1 := hnb.cell 1 _ rfl; have g2 := hnb.cell 2 _ rfl; have g3 := hnb.cell 3 _ rfl; have g4 := hnb.cell 4 _ rfl; have g5 := hnb.cell 5 _ rfl; have gf := hnb.frozen; have gl := hnb.lt; clear hnb) | skip); clear hk HKN; have HKN := HKM; clear HKM))
    all_goals
      go_wp2_with fail
      go_meet
      first
        | with_reducible exact ⟨_, rfl, Lib.hid (Box.new _ _ _), HKN.out.size, Lib.hid (HKN.out.alloc _)⟩
        | exact ⟨_, rfl, Lib.hid (Box.putM (Box.putM (Box.putM (Box.putM (Box.putM (Box.putM HNB.out 0 _) 1 _) 2 _) 3 _) 4 _) 5 _), hng, Lib.hid ((((((HKN.out.setCell hng _).setCell hng _).setCell hng _).setCell hng _).setCell hng _).setCell hng _)⟩
  case rest =>
    obtain ⟨g, rfl, HG, hg, HKC⟩ := hcut
    replace HB := Lib.hid (HB.out.keeps HKC.out)
    replace HZ := Lib.hid (HZ.out.keeps HKC.out)
    replace HK := Lib.hid (HK.out.trans HKC.out)
    clear a0 a1 HKN HKC HCA
    have HWH := Lib.hid (rwhole_any ⟨fr, at_, at_ + A, lv, n, a, len, cap, l⟩)
    obtain ⟨O, hO⟩ : ∃ O, O = wholeOk ⟨fr, at_, at_ + A, lv, n, a, len, cap, l⟩ := ⟨_, rfl⟩
    have HO := Lib.hid hO
    rw [← hO] at HWH
    clear hO
    have g0 := HG.out.cell 0 _ rfl
    have g1 := HG.out.cell 1 _ rfl
    have g2 := HG.out.cell 2 _ rfl
    have g3 := HG.out.cell 3 _ rfl
    have g4 := HG.out.cell 4 _ rfl
    have g5 := HG.out.cell 5 _ rfl
    have gf := HG.out.frozen
    have gl := HG.out.lt
    go_wp2_with fail
    with_reducible refine (HWH.out _ (by exact HI.out.keeps HK.out)).mono ?_
    rintro e w2 ⟨rfl, hk1⟩
    replace HB := Lib.hid (HB.out.keeps hk1)
    replace HZ := Lib.hid (HZ.out.keeps hk1)
    replace HG := Lib.hid (HG.out.keeps hk1)
    replace HK := Lib.hid (HK.out.trans hk1)
    clear hk1 HWH g0 g1 g2 g3 g4 g5 gf gl
    have g0 := HG.out.cell 0 _ rfl
    have g1 := HG.out.cell 1 _ rfl
    have g2 := HG.out.cell 2 _ rfl
    have g3 := HG.out.cell 3 _ rfl
    have g4 := HG.out.cell 4 _ rfl
    have g5 := HG.out.cell 5 _ rfl
    have gf := HG.out.frozen
    have gl := HG.out.lt
    have z0 := HZ.out.cell 0 _ rfl
    have z1 := HZ.out.cell 1 _ rfl
    have z2 := HZ.out.cell 2 _ rfl
    have z3 := HZ.out.cell 3 _ rfl
    have z4 := HZ.out.cell 4 _ rfl
    have z5 := HZ.out.cell 5 _ rfl
    have zf := HZ.out.frozen
    have zl := HZ.out.lt
    cases O
    · go_wp2_with fail
      refine bodyPost_ret (v := .tuple #[.agg #[.int .i64 0, .int .i64 0, .int .i64 0, .int .i64 0, .int .i64 0, .slice none 0 0], .int .i64 110]) (by simp [results, Try.results45, go_sem, *]) rfl ⟨⟨0, 0, 0, 0, ⟨0, none, 0, 0, []⟩⟩, 110, rfl, ⟨.inl rfl⟩, ?_⟩
      repeat (first | with_reducible refine Keeps.setCell ?_ (by simp) _)
      exact HK.out
    · have b1 := HB.out.cell 1 _ rfl
      have bl := HB.out.lt
      obtain ⟨hch, hll, hl1, hl2⟩ := whole_len HO.out.symm (w := w2) (HI.out.keeps HK.out)
      simp only at hch hll hl1 hl2
      have hcap := HI.out.cap
      have hmax := HI.out.max
      have hby := HI.out.byte
      simp only at hcap hmax hby
      obtain ⟨bb, off, rfl, hcell, hbl⟩ := (HI.out.keeps HK.out).row.addr hl1
      simp only at hcell hbl
      have hsrc : ∀ j u, (l.map fun n : Nat => Value.int .u8 n)[j]? = some u → w2.cell? ((⟨bb, off, none⟩ : Addr).add j) = some u := by
        intro j u hj
        simp only [List.getElem?_map, Option.map_eq_some_iff] at hj
        obtain ⟨y, hy, rfl⟩ := hj
        have hjl : j < l.length := (List.getElem?_eq_some_iff.1 hy).1
        have h := hcell j (by omega)
        rw [List.getD_eq_getElem?_getD, hy] at h
        by_cases hj0 : j = 0
        · subst hj0; simpa [Addr.add] using h
        · simpa [Addr.add, hj0] using h
      clear hcell
      have HS := Lib.hid hsrc
      have HCH := Lib.hid hch
      have HBY := Lib.hid hby
      clear hsrc hch hby
      go_wp2_with (refine wpList_rowT rfl _ _ 36 rfl 5 1 (.int .u8 0) Try.underlying36 info_u8T rfl w2.heap.size _ [] rfl (by exact Own.nil _ _ _) ⟨bb, off, none⟩ len cap (l.map fun n : Nat => Value.int .u8 n) rfl (by rw [List.length_map]; exact hll) (by exact HS.out) (by intro u hu; simp only [List.mem_map] at hu; obtain ⟨y, -, rfl⟩ := hu; rfl) (by simp; omega) (by simp; omega) (Nat.le_refl _) ?hmain)
      case hmain =>
        intro v' w3 ho hgr hat
        have hk3 : Keeps w2 w3 := (Below.refl w2.heap.size w2).grown hgr (Nat.le_refl _) (fun k hk => by simp [Value.ownBlock] at hk)
        obtain ⟨a', cap', rfl, hc1, hc2, hrow, hfr⟩ := own_row8 ho
        rw [hll] at hc1 hrow
        have HROW := Lib.hid hrow
        have HFR := Lib.hid hfr
        have hs2 := HK.out.size
        have hgw2 : g < w2.heap.size := HG.out.lt
        replace HB := Lib.hid (HB.out.keeps hk3)
        replace HZ := Lib.hid (HZ.out.keeps hk3)
        replace HG := Lib.hid (HG.out.keeps hk3)
        replace HK := Lib.hid (HK.out.trans hk3)
        clear ho hgr hat hk3 hrow hfr b1 bl g0 g1 g2 g3 g4 g5 gf gl z0 z1 z2 z3 z4 z5 zf zl
        simp only [hll]
        have g0 := HG.out.cell 0 _ rfl
        have g1 := HG.out.cell 1 _ rfl
        have g2 := HG.out.cell 2 _ rfl
        have g3 := HG.out.cell 3 _ rfl
        have g4 := HG.out.cell 4 _ rfl
        have g5 := HG.out.cell 5 _ rfl
        have gf := HG.out.frozen
        have gl := HG.out.lt
        have z0 := HZ.out.cell 0 _ rfl
        have z1 := HZ.out.cell 1 _ rfl
        have z2 := HZ.out.cell 2 _ rfl
        have z3 := HZ.out.cell 3 _ rfl
        have z4 := HZ.out.cell 4 _ rfl
        have z5 := HZ.out.cell 5 _ rfl
        have zf := HZ.out.frozen
        have zl := HZ.out.lt
        have hgne : ¬ w.heap.size + 1 = g := by omega
        go_wp2_with fail
        have HGW := Lib.hid HG.out.lt
        refine bodyPost_ret (v := .tuple #[.agg #[.int .i64 fr, .int .i64 at_, .int .i64 (at_ + A), .int .i64 lv, .int .i64 n, .slice a' len cap'], .int .i64 0]) (by simp [results, Try.results45, go_sem, *]) rfl
          ⟨⟨fr, at_, at_ + A, lv, ⟨n, a', len, cap', l⟩⟩, 0, rfl, ⟨.inr ⟨rfl, rfl, rfl, by rw [HA.out], rfl, rfl, rfl, HO.out.symm, ?_, ?_⟩⟩, ?_⟩
        · have hin : RB.In ⟨n, a', len, cap', l⟩ w3 := ⟨HI.out.n1, HI.out.n2, hc1, hc2, HBY.out, HROW.out⟩
          have hne1 : ∀ x, a' = some x → x.block ≠ g := fun x hx => by have := HFR.out x hx; omega
          have hne2 : ∀ x, a' = some x → x.block ≠ w.heap.size + 1 := fun x hx => by have := HFR.out x hx; omega
          repeat (refine RB.In.keepsBut ?_ (KeepsBut.setCell _ _ _ _) (by first | exact hne1 | exact hne2))
          exact hin
        · intro x hx
          have := HFR.out x hx
          omega
        · repeat (first | with_reducible refine Keeps.setCell ?_ (by simp <;> omega) _)
          exact HK.out
end Go.Proofs.Ytcophhdlcjemeaa
