/- The walks of the reference of layer 1: Join. -/
import Derived.Test.YtkbdpdcandpfdaaPlainJoin
import Derived.Test.YtkbdpdcandpfdaaW15
import Derived.Maps.AppendAt
import Derived.Laws.OwnMore
namespace Go.Proofs.Ytkbdpdcandpfdaa
open Go.RowKit
set_option linter.unusedVariables false
set_option linter.unusedSimpArgs false
theorem run_append_owned_noneR {P : Program} {w : World} (base : Nat) (t ty e : TypeId) (i : TypeInfo) (size c : Nat) (ht : P.underlying t = some (.slice e)) (hi : P.info? e = some i)
    (v : Value) (n : Nat) (xs : List Value) (hown : w.ownsRow base e size v n xs) :
    (Builtin.append_ #[t, t] ty #[v, .slice none 0 c]).run P w = .ok v w := by
  rcases hown.2 with ⟨rfl, rfl⟩ | ⟨g, cap, cur, rfl, _, _, hnc, _⟩
  · simp [Builtin.append_, run_underlying ht, sizeOf, typeInfo, hi, Builtin.lenOf, Builtin.firstCells]
  · simp [Builtin.append_, run_underlying ht, sizeOf, typeInfo, hi, Builtin.lenOf, Builtin.firstCells, hnc, storeCells]
/-- 'append(l, xs...)', l the call's own, xs any row of cells -/
theorem wpList_rows {P : Program} {w : World} {ops : Array Oper} {rest : List Oper} {o : Oper} {a : Act} {Q : Exit → Act → World → Prop} (hgd : o.guard = none) (s x : Operand) (t : TypeId)
    (ho : o.op = .call { callee := .builtin .append, args := #[s, x], argTypes := #[t, t] }) (e bytes : Nat) (z : Value) (ht : P.underlying t = some (.slice e))
    (hinfo : (P.info? e).map (fun i => (i.zero, i.size, i.bytes)) = some (some z, 1, bytes)) (hz : z.cells.size = 1)
    (base : Nat) (v : Value) (xs : List Value) (hs : a.eval s = v) (hown : Own w base e v xs) (ad : Option Addr) (m c : Nat) (news : List Value) (hx : a.eval x = .slice ad m c) (hrow : RowV w ad m news)
    (h1 : ∀ u ∈ news, u.oneCell' = true) (hlen : (xs.length + m) * bytes ≤ 140737488355328) (h63 : xs.length + m ≤ 9223372036854775807) (hbase : base ≤ w.heap.size)
    (h : ∀ v' w', Own w' base e v' (xs ++ news) → Below base w w' → wpList P ops Q rest (a.put o.dst v') w') : wpList P ops Q (o :: rest) a w := by
  obtain ⟨i, hi, hz0, hz1, hz2⟩ := info_parts hinfo
  have hl := hrow.1
  have key : ∀ (y : Addr), ad = some y → wpList P ops Q (o :: rest) a w := by
    intro y hy
    subst hy
    refine wpList_append_own_at w hgd s x t ho base e i z 1 bytes ht hi hz0 hz1 hz2 hz (by decide) v xs.length xs hs hown y m c news hx (by omega) (fun j u hj => ?_) h1 (by unfold maxLen; omega) hlen hbase ?_
    · have hjl : j < news.length := (List.getElem?_eq_some_iff.1 hj).1
      obtain ⟨b, off, hab, hc⟩ := hrow.2 j (by omega)
      cases hab
      rw [hj] at hc
      by_cases hj0 : j = 0
      · subst hj0; simpa [Addr.add] using hc
      · simpa [Addr.add, hj0] using hc
    · intro v' w' hown' hg _ _
      refine h v' w' ?_ ((Below.refl base w).grown hg hbase (fun k hk => (hown.lt k hk).1))
      unfold Own; rw [List.length_append, hl]; exact hown'
  cases ad with
  | some y => exact key y rfl
  | none =>
    have h0 : m = 0 := by
      rcases Nat.eq_zero_or_pos m with h0 | h0
      · exact h0
      · obtain ⟨b, off, hab, -⟩ := hrow.2 0 h0
        cases hab
    subst h0
    obtain rfl : news = [] := List.eq_nil_of_length_eq_zero hl
    refine wpList_plain hgd fun K hK => ?_
    have hrun := run_append_owned_noneR (P := P) base t o.type e i 1 c ht hi v xs.length xs hown
    unfold Oper.wp
    simp [execOp, ho, resolve, invoke, builtin, hs, hx, hrun, Result.andThen]
    refine hK _ _ (h v w (by simpa using hown) (Below.refl _ _))
theorem joinRes_of (xs : List RB) (k : Nat) (h : ∀ i (hi : i < xs.length), chk xs[i].n xs[i].l = true) (hk : k ≤ xs.length) (hl : k = xs.length ∨ 4096 < (flatTo xs k).length) : joinRes xs = ofRes (flatTo xs k) := by
  rcases hl with rfl | hl
  · unfold joinRes ofRes
    rw [if_pos (all_chk xs h)]
  · have := flatTo_le xs k xs.length hk
    rw [joinRes_long xs h (by omega)]
    unfold ofRes
    rw [if_neg (by omega)]
set_option maxRecDepth 100000 in
set_option maxHeartbeats 2000000 in
theorem rjoin_any (a : Option Addr) (n cap : Nat) (xs : List RB) (w : World) (hx : RBs w a n cap xs) :
    Calls Try.prog 50 #[.slice a n cap] w fun e w' => Res w w' e (joinRes xs) := by
  have HX := Lib.hid hx
  have hlen := hx.len
  have hcap := hx.hcap
  have hmax := hx.hmax
  subst hlen
  clear hx
  have HNO := Lib.hid (joinRes_no xs)
  have HOF := Lib.hid (joinRes_of xs)
  obtain ⟨R, hR⟩ : ∃ R, R = joinRes xs := ⟨_, rfl⟩
  rw [← hR] at HNO HOF ⊢
  clear hR
  have HZ := Lib.hid (Box.new w 32 #[.int .i64 0, .slice none 0 0])
  have HK := Lib.hid ((Keeps.refl w).alloc (.cells #[.int .i64 0, .slice none 0 0] 32))
  go_enter Try.func50, Try.ntmps50
  go_wp2_with fail
  go_loopw [5] (fun i wr => ∃ k : Nat, k ≤ xs.length ∧ i = .int .i64 k ∧ Hid (∀ j (hj : j < xs.length), j < k → chk xs[j].n xs[j].l = true) ∧ Hid (Box wr w.heap.size 32 #[.int .i64 0, .slice none 0 0]) ∧ Hid (Keeps w wr)) (fun i _ => xs.length - (intOf i).toNat)
  case atStart => exact ⟨0, by omega, rfl, Lib.hid (fun j _ h => absurd h (by omega)), HZ, HK⟩
  case round =>
    clear HZ HK
    obtain ⟨k, hk, rfl, HC, HZ, HK⟩ := hrel
    by_cases hlt : k < xs.length
    · obtain ⟨b, off, rfl, hcell⟩ := HX.out.addr (by omega)
      obtain ⟨hc0, hc1⟩ := hcell k hlt
      replace hc0 := HK.out.later hc0
      replace hc1 := HK.out.later hc1
      have HI := Lib.hid ((HX.out.isIn _ (List.getElem_mem hlt)).keeps HK.out)
      have HC2 := Lib.hid (HNO.out k hlt)
      have HC3 : Hid (chk xs[k].n xs[k].l = true → ∀ j (hj : j < xs.length), j < k + 1 → chk xs[j].n xs[j].l = true) := Lib.hid (by
        intro h j hj hjk
        by_cases hjk' : j = k
        · subst hjk'; exact h
        · exact HC.out j hj (by omega))
      clear hcell HC
      obtain ⟨x, hx⟩ : ∃ x, x = xs[k] := ⟨_, rfl⟩
      rw [← hx] at hc0 hc1 HI HC2 HC3
      clear hx
      obtain ⟨nn, aa, ll, cc, bl⟩ := x
      simp only at hc0 hc1
      cases hch : chk nn bl
      all_goals
        have HCH := Lib.hid hch
        clear hch
        go_wp2_with fail
      · with_reducible refine (rcheck_no ⟨nn, aa, ll, cc, bl⟩ _ (by exact HI.out) HCH.out).mono ?_
        rintro e w2 ⟨rfl, hk2⟩
        replace HZ := Lib.hid (HZ.out.keeps hk2)
        replace HK := Lib.hid (HK.out.trans hk2)
        clear hk2 hc0 hc1
        have z0 := HZ.out.cell 0 _ rfl
        have z1 := HZ.out.cell 1 _ rfl
        have zf := HZ.out.frozen
        have zl := HZ.out.lt
        go_wp2_with fail
        refine bodyPost_ret (v := .tuple #[RB.zero.val, .int .i64 10]) (by simp [results, Try.results50, go_sem, RB.val, RB.zero, *]) rfl (Res.no2 (HC2.out HCH.out) ⟨rfl, ?_⟩)
        repeat (with_reducible refine Keeps.setCell ?_ (by simp <;> omega) _)
        exact HK.out
      · with_reducible refine (rcheck_yes ⟨nn, aa, ll, cc, bl⟩ _ (by exact HI.out) HCH.out).mono ?_
        rintro e w2 ⟨rfl, hk2⟩
        replace HZ := Lib.hid (HZ.out.keeps hk2)
        replace HK := Lib.hid (HK.out.trans hk2)
        clear hk2 hc0 hc1 HI
        go_wp2_with fail
        go_roundw
        case rel => exact ⟨k + 1, by omega, by go_num, HC3.out HCH.out, HZ, HK⟩
        case measure => simp [intOf]; omega
    · obtain rfl : k = xs.length := by omega
      have HCA : Hid (∀ j (hj : j < xs.length), chk xs[j].n xs[j].l = true) := Lib.hid (fun j hj => HC.out j hj hj)
      clear HC hlt HNO
      replace HOF := Lib.hid (fun k => HOF.out k HCA.out)
      have zl := HZ.out.lt
      go_wp2_with fail
      go_loopw [4, 6] (fun v i wr => ∃ (k : Nat) (va : Option Addr) (vcap : Nat), k ≤ xs.length ∧ i = .int .i64 k ∧ v = .slice va (flatTo xs k).length vcap ∧ Hid (Own wr (w.heap.size + 1) 4 (.slice va (flatTo xs k).length vcap) ((flatTo xs k).map Value.bool)) ∧ Hid (Box wr w.heap.size 32 #[.int .i64 0, .slice none 0 0]) ∧ Hid (Keeps w wr)) (fun _ i _ => xs.length - (intOf i).toNat)
      case atStart => exact ⟨0, none, 0, by omega, rfl, rfl, Lib.hid (Own.nil _ _ _), HZ, HK⟩
      case round =>
        clear HZ HK zl
        obtain ⟨k, va, vcap, hk, rfl, rfl, HO, HZ, HK⟩ := hrel
        obtain ⟨fk, hfk⟩ : ∃ fk, fk = flatTo xs k := ⟨_, rfl⟩
        have HF := Lib.hid hfk
        rw [← hfk] at HO ⊢
        clear hfk
        have zl := HZ.out.lt
        by_cases hgo : k < xs.length ∧ fk.length ≤ 4096
        · obtain ⟨hlt, h4⟩ := hgo
          obtain ⟨b, off, rfl, hcell⟩ := HX.out.addr (by omega)
          obtain ⟨hc0, hc1⟩ := hcell k hlt
          replace hc0 := HK.out.later hc0
          replace hc1 := HK.out.later hc1
          have his := ((HX.out.isIn _ (List.getElem_mem hlt)).is (HCA.out k hlt))
          have hn1 := his.most
          have HI := Lib.hid (his.keeps HK.out)
          have HS := Lib.hid (flatTo_succ xs k hlt)
          rw [← HF.out] at HS
          have hbb : unpack xs[k].n.toNat xs[k].l = xs[k].bits := rfl
          rw [hbb] at HI hn1
          clear hcell hbb his
          obtain ⟨x, hx⟩ : ∃ x, x = xs[k] := ⟨_, rfl⟩
          rw [← hx] at hc0 hc1 HI HS hn1
          clear hx
          obtain ⟨bs, hbs⟩ : ∃ bs, bs = x.bits := ⟨_, rfl⟩
          rw [← hbs] at HI HS hn1
          clear hbs
          obtain ⟨nn, aa, ll, cc, bl⟩ := x
          simp only at hc0 hc1
          have d1 : decide ((fk.length : Int) ≤ 4096) = true := by simp; omega
          go_wp2_with fail
          with_reducible refine (rlist_ok ⟨nn, aa, ll, cc, bl⟩ bs _ (by exact HI.out)).mono ?_
          rintro e w2 ⟨lv, rfl, hown, hk2⟩
          obtain ⟨la, lcap, rfl, hlc, hlm, hlr⟩ := hown.bools.shape
          have HLR := Lib.hid hlr
          replace HZ := Lib.hid (HZ.out.keeps hk2)
          replace HO := Lib.hid (HO.out.keeps hk2)
          replace HK := Lib.hid (HK.out.trans hk2)
          clear hown hlr hk2 hc0 hc1 HI
          have zl2 := HZ.out.lt
          go_wp2_with (refine wpList_rows rfl _ _ 46 rfl 4 1 (.bool false) Try.underlying46 info_bool rfl (w.heap.size + 1) _ _ rfl (by exact HO.out) la bs.length lcap (bs.map Value.bool) rfl (by exact HLR.out) (by intro u hu; simp only [List.mem_map] at hu; obtain ⟨y, -, rfl⟩ := hu; rfl) (by rw [List.length_map]; omega) (by rw [List.length_map]; omega) (by omega) ?hmain)
          case hmain =>
            intro v' w3 hown hbel
            rw [← List.map_append, ← HS.out] at hown
            obtain ⟨va2, vcap2, rfl, -, -, -⟩ := hown.bools.shape
            have HO3 := Lib.hid hown
            have HZ3 := Lib.hid (HZ.out.below hbel (by omega))
            have HK3 : Hid (Keeps w w3) := Lib.hid (HK.out.below hbel (by omega))
            clear hown hbel HO HZ HK HLR
            go_wp2_with fail
            go_roundw
            case rel => exact ⟨k + 1, va2, vcap2, by omega, by go_num, rfl, HO3, HZ3, HK3⟩
            case measure => simp [intOf]; omega
        · have HRR : Hid (R = ofRes fk) := Lib.hid (by
            rw [HF.out]
            refine HOF.out k hk ?_
            rw [← HF.out]
            omega)
          have HOB : Hid (Bools wr (.slice va fk.length vcap) fk) := Lib.hid HO.out.bools
          have hwz := HK.out.size
          have hends : (decide (k < xs.length) = false) ∨ (decide (k < xs.length) = true ∧ decide ((fk.length : Int) ≤ 4096) = false) := by
            by_cases h : k < xs.length
            · right; exact ⟨by simpa using h, by simp; omega⟩
            · left; simpa using h
          clear hgo
          rcases hends with d1 | ⟨d1, d2⟩
          all_goals
            have hdi : (decide ((k : Int) < (xs.length : Int))) = decide (k < xs.length) := by simp
            rw [d1] at hdi
            go_wp2_with fail
            with_reducible refine (rof_any _ fk _ (by exact HOB.out)).mono ?_
            rw [← HRR.out]
            rintro e w3 ⟨y, rfl, hy, hf, hk3⟩
            have HY := Lib.hid hy
            replace HZ := Lib.hid (HZ.out.keeps hk3)
            replace HK := Lib.hid (HK.out.trans hk3)
            have z0 := HZ.out.cell 0 _ rfl
            have z1 := HZ.out.cell 1 _ rfl
            have zf := HZ.out.frozen
            clear hy hk3 HO HOB
            obtain ⟨n, b, len, cap2, l2⟩ := y
            go_wp2_with fail
            refine bodyPost_ret (v := .tuple #[.agg #[.int .i64 n, .slice b len cap2], .int .i64 R.2]) (by simp [results, Try.results50, go_sem, RB.val, *]) rfl ⟨⟨n, b, len, cap2, l2⟩, rfl, ?_, fun a ha => ?_, ?_⟩
            · exact (HY.out.put hf (by omega) _ _).put hf (by omega) _ _
            · have := hf a ha; omega
            · exact (HK.out.setCell (by simp) _).setCell (by simp) _
end Go.Proofs.Ytkbdpdcandpfdaa
