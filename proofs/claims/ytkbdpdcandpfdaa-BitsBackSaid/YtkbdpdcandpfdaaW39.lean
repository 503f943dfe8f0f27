/- bits.Ones, bits.Of, slices.Equal. -/
import Derived.Test.YtkbdpdcandpfdaaW35
import Derived.Test.YtkbdpdcandpfdaaW36
import Derived.Test.YtkbdpdcandpfdaaW38
namespace Go.Proofs.Ytkbdpdcandpfdaa
open Go.RowKit Go.Shelf
set_option linter.unusedVariables false
set_option linter.unusedSimpArgs false
attribute [local go_sem] Oper.semAt_some

set_option maxRecDepth 100000 in
set_option maxHeartbeats 1000000 in
theorem eqBools_any (u v : Value) (bs cs : List Bool) (w : World) (hu : Bools w u bs) (hv : Bools w v cs) :
    Calls Try.prog 40 #[u, v] w fun e w' => e = .returned (.bool (decide (bs = cs))) ∧ Keeps w w' := by
  obtain ⟨ua, ucap, rfl, hu1, hu2, hu3⟩ := hu.shape
  obtain ⟨va, vcap, rfl, hv1, hv2, hv3⟩ := hv.shape
  have HU := Lib.hid hu3
  have HV := Lib.hid hv3
  clear hu hv hu3 hv3
  by_cases hl : bs.length = cs.length
  · have hd1 : ((bs.length : Int) != (cs.length : Int)) = false := by rw [bne_eq_false_iff_eq]; omega
    have HL := Lib.hid hl
    have hcu : cs.length ≤ ucap := by omega
    clear hl
    go_enter Try.func40, Try.ntmps40
    go_wp2_with fail
    clear hd1
    go_loopw [13] (fun i wr => ∃ k : Nat, k ≤ bs.length ∧ i = .int .i64 k ∧ Hid (bs.take k = cs.take k) ∧ Hid (Keeps w wr)) (fun i _ => bs.length - (intOf i).toNat)
    case atStart => exact ⟨0, Nat.zero_le _, rfl, rfl, Keeps.refl _⟩
    case round =>
      obtain ⟨k, hk, rfl, HT, HK⟩ := hrel
      by_cases hlt : k < bs.length
      · have hltc : k < cs.length := by have := HL.out; omega
        obtain ⟨b, off, rfl, hc, hb⟩ := (HU.out.keeps HK.out).boolAt (by omega)
        obtain ⟨b', off', rfl, hc', hb'⟩ := (HV.out.keeps HK.out).boolAt (by omega)
        have hcell := hc k hlt
        have hcell' := hc' k hltc
        clear hc hc'
        obtain ⟨y, hy⟩ : ∃ y, bs.getD k false = y := ⟨_, rfl⟩
        obtain ⟨z, hz⟩ : ∃ z, cs.getD k false = z := ⟨_, rfl⟩
        rw [hy] at hcell
        rw [hz] at hcell'
        have HY := Lib.hid hy
        have HZ := Lib.hid hz
        have HNE : Hid (y ≠ z → decide (bs = cs) = false) := by
          intro h
          apply decide_eq_false
          rintro rfl
          exact h (HY.out.symm.trans HZ.out)
        have HEQ : Hid (y = z → bs.take (k + 1) = cs.take (k + 1)) := by
          rintro rfl
          rw [take_snoc bs k false hlt, take_snoc cs k false hltc, HT.out, HY.out, HZ.out]
        clear hy hz HY HZ HT
        cases y <;> cases z
        · go_wp2_with fail
          go_quiet (fail)
          go_wp2_with fail
          go_roundw
          case rel => exact ⟨k + 1, by omega, by go_num, HEQ.out trivial, HK.out.drewN _⟩
          case measure => simp [intOf]; omega
        · go_wp2_with fail
          go_quiet (fail)
          go_wp2_with fail
          go_ret
          exact ⟨ret_bool (HNE.out (by decide)).symm, HK.out.drewN _⟩
        · go_wp2_with fail
          go_quiet (fail)
          go_wp2_with fail
          go_ret
          exact ⟨ret_bool (HNE.out (by decide)).symm, HK.out.drewN _⟩
        · go_wp2_with fail
          go_quiet (fail)
          go_wp2_with fail
          go_roundw
          case rel => exact ⟨k + 1, by omega, by go_num, HEQ.out trivial, HK.out.drewN _⟩
          case measure => simp [intOf]; omega
      · obtain rfl : k = bs.length := by omega
        have HE : Hid (decide (bs = cs) = true) := by
          apply decide_eq_true
          have h1 := HT.out
          rw [List.take_length, HL.out, List.take_length] at h1
          exact h1
        go_wp2_with fail
        go_ret
        exact ⟨ret_bool HE.out.symm, HK.out⟩
  · have hd1 : ((bs.length : Int) != (cs.length : Int)) = true := by rw [bne_iff_ne]; omega
    have HE : Hid (decide (bs = cs) = false) := by
      apply decide_eq_false
      rintro rfl
      exact hl rfl
    clear hl
    go_enter Try.func40, Try.ntmps40
    go_wp2_with fail
    go_ret
    exact ⟨ret_bool HE.out.symm, Keeps.refl _⟩

set_option maxHeartbeats 400000 in
theorem of_long (v : Value) (bs : List Bool) (w : World) (hl : Bools w v bs) (hm : 4096 < bs.length) :
    Calls Try.prog 32 #[v] w fun e w' => e = .returned (.tuple #[RB.zero.val, .int .i64 3]) ∧ Keeps w w' := by
  obtain ⟨a, cap, rfl, h1, h2, h3⟩ := hl.shape
  clear hl h3
  go_enter Try.func32, Try.ntmps32
  go_wp2_with fail
  refine bodyPost_ret (by simp [results, Try.results32, go_sem, RB.val, RB.zero]) rfl ⟨rfl, (Keeps.refl _).alloc _⟩

set_option maxRecDepth 100000 in
set_option maxHeartbeats 1000000 in
theorem of_ok (v : Value) (bs : List Bool) (w : World) (hl : Bools w v bs) (hm : bs.length ≤ 4096) :
    Calls Try.prog 32 #[v] w fun e w' => Res w w' e (bs, 0) := by
  obtain ⟨a, cap, rfl, h1, h2, h3⟩ := hl.shape
  have HR := Lib.hid h3
  clear hl h3
  have hd : decide ((4096 : Int) < bs.length) = false := by simp; omega
  have HZ := Lib.hid (Box.new w 32 #[.int .i64 0, .slice none 0 0])
  have HK := Lib.hid ((Keeps.refl w).alloc (.cells #[.int .i64 0, .slice none 0 0] 32))
  go_enter Try.func32, Try.ntmps32
  go_wp2_with fail
  with_reducible refine (blank_bits _ bs.length _ (by omega) (by omega)).mono ?_
  rintro e w1 ⟨g, rfl, hblk, hg, hk1⟩
  have HBL := Lib.hid hblk
  have HZ1 := Lib.hid (HZ.out.keeps hk1)
  have HK1 := Lib.hid (HK.out.trans hk1)
  have hs1 := HZ1.out.lt
  have hs2 := hblk.lt
  rw [World.size_alloc] at hg
  clear hk1 hblk HZ HK
  go_wp2_with fail
  clear hd
  go_loopw [16] (fun i wr => ∃ k : Nat, k ≤ bs.length ∧ i = .int .i64 k ∧ Hid (Blk wr .u8 5 g (pack (ofTo bs k))) ∧
      Hid (Box wr w.heap.size 32 #[.int .i64 0, .slice none 0 0]) ∧ Hid (Box wr w1.heap.size 32 #[.int .i64 bs.length, .slice (some ⟨g, 0, none⟩) ((bs.length + 7) / 8) ((bs.length + 7) / 8)]) ∧ Hid (Keeps w wr)) (fun i _ => bs.length - (intOf i).toNat)
  case atStart => exact ⟨0, by omega, rfl, by rw [ofTo_zero]; exact HBL.out.next _, HZ1.out.next _, Box.new _ _ _, HK1.out.alloc _⟩
  case round =>
    clear HBL HZ1 HK1
    obtain ⟨k, hk, rfl, HB, HX, HY, HK⟩ := hrel
    have hx0 := HX.out.cell 0 _ rfl
    have hx1 := HX.out.cell 1 _ rfl
    have hxf := HX.out.frozen
    have hy0 := HY.out.cell 0 _ rfl
    have hy1 := HY.out.cell 1 _ rfl
    have hxl := HX.out.lt
    by_cases hlt : k < bs.length
    · obtain ⟨b, off, rfl, hc, hb⟩ := (HR.out.keeps HK.out).boolAt (by omega)
      have hcell := hc k hlt
      clear hc
      obtain ⟨y, hy⟩ : ∃ y, bs.getD k false = y := ⟨_, rfl⟩
      rw [hy] at hcell
      have HG := Lib.hid hy
      clear hy
      have HLEN := Lib.hid (ofTo_len bs k hk)
      cases y
      · go_wp2_with fail
        go_roundw
        case rel => exact ⟨k + 1, by omega, by go_num, by rw [ofTo_no _ _ hlt HG.out]; exact HB.out, HX, HY, HK⟩
        case measure => simp [intOf]; omega
      · go_wp2_with fail
        with_reducible refine (set_ok _ g _ _ (ofTo bs k) _ k _ rfl HB.out (by rw [HLEN.out]) (by rw [HLEN.out]; omega) (Nat.le_refl _) (by omega) (by rw [HLEN.out]; omega)).mono ?_
        rintro e w3 ⟨rfl, hbl, hkb⟩
        have HB3 : Hid (Blk w3 .u8 5 g (pack (ofTo bs (k + 1)))) := by
          rw [ofTo_yes _ _ hlt HG.out]; exact hbl
        have HX3 := Lib.hid (HX.out.keepsBut hkb (by omega))
        have HY3 := Lib.hid (HY.out.keepsBut hkb (by omega))
        have HK3 := Lib.hid (KeepsBut.keeps HK.out hkb (by omega))
        clear hbl hkb hx0 hx1 hxf hy0 hy1 HB HX HY HK hcell
        go_wp2_with fail
        go_roundw
        case rel => exact ⟨k + 1, by omega, by go_num, HB3, HX3, HY3, HK3⟩
        case measure => simp [intOf]; omega
    · obtain rfl : k = bs.length := by omega
      go_wp2_with fail
      refine bodyPost_ret (by simp [results, Try.results32, go_sem, *]) rfl ⟨⟨bs.length, some ⟨g, 0, none⟩, (bs.length + 7) / 8, (bs.length + 7) / 8, pack bs⟩, rfl, ?_, fun a ha => by cases ha; simp only; omega, ?_⟩
      · have hb := HB.out
        rw [ofTo_all] at hb
        exact ((hb.keepsBut (KeepsBut.setCell _ _ _ _) (by omega)).keepsBut (KeepsBut.setCell _ _ _ _) (by omega)).is' _ rfl hm _ (Nat.le_refl _) (by omega)
      · exact (HK.out.setCell (by simp) _).setCell (by simp) _
theorem of_any (v : Value) (bs : List Bool) (w : World) (hl : Bools w v bs) : Calls Try.prog 32 #[v] w fun e w' => Res w w' e (ofRes bs) := by
  unfold ofRes
  by_cases h : bs.length ≤ 4096
  · rw [if_pos h]; exact of_ok v bs w hl h
  · rw [if_neg h]; exact (of_long v bs w hl (by omega)).mono fun e w' h => Res.no h

def cntL (l : List (Nat × Bool)) : Nat := (l.filter Prod.snd).length
theorem cntL_snoc (l : List (Nat × Bool)) (p : Nat × Bool) : cntL (l ++ [p]) = cntL l + p.2.toNat := by
  unfold cntL
  rw [List.filter_append, List.length_append]
  obtain ⟨i, b⟩ := p
  cases b <;> rfl
theorem cntL_le (l : List (Nat × Bool)) : cntL l ≤ l.length := List.length_filter_le _ _
theorem cntL_pairs (bs : List Bool) : cntL (pairs bs bs.length) = cnt bs bs.length := by
  have h : ∀ k, k ≤ bs.length → cntL (pairs bs k) = cnt bs k := by
    intro k
    induction k with
    | zero => intro _; rfl
    | succ k ih =>
      intro hk
      rw [pairs_succ, cntL_snoc, cnt_succ _ _ (by omega), ih (by omega), List.getD_eq_getElem?_getD]
  exact h _ (Nat.le_refl _)

set_option maxRecDepth 100000 in
set_option maxHeartbeats 2000000 in
theorem ones_any (x : RB) (w : World) (hx : x.In w) :
    Calls Try.prog 38 #[x.val] w fun e w' => e = .returned (.int .i64 (cnt (listOf x) (listOf x).length : Nat)) ∧ Keeps w w' := by
  have hst := all_stops 3 (by omega) (w.heap.size + 1 + 1) x w (((w.alloc (.cells #[.int .i64 x.n, .slice x.a x.len x.cap] 32)).alloc (.cells #[.int .i64 0] 3)).alloc (.cells #[.int .i64 x.n, .slice x.a x.len x.cap] 32)) hx
    ((((Keeps.refl w).alloc _).alloc _).alloc _) (by
      have := Box.new ((w.alloc (.cells #[.int .i64 x.n, .slice x.a x.len x.cap] 32)).alloc (.cells #[.int .i64 0] 3)) 32 #[.int .i64 x.n, .slice x.a x.len x.cap]
      rw [World.size_alloc, World.size_alloc] at this
      exact this)
  have HST := Lib.hid hst
  have hlen := listOf_len hx
  obtain ⟨L, hL⟩ : ∃ L, L = listOf x := ⟨_, rfl⟩
  rw [← hL] at HST hlen ⊢
  have HCP := Lib.hid (cntL_pairs L)
  clear hst hL hx
  obtain ⟨n, a, len, cap, l⟩ := x
  show Calls Try.prog 38 #[.agg #[.int .i64 n, .slice a len cap]] w _
  refine (callsIn_wide (n := 4)).1 ?_
  refine callsIn_of_wp_marks Try.func38 rfl trivial ?_ rfl
  simp only [Try.ntmps38, List.size_toArray, List.length_cons, List.length_nil, Nat.reduceAdd, Nat.reduceSub, Array.replicate_succ, Array.replicate_zero, List.push_toArray, List.append_toArray, List.nil_append, List.cons_append]
  gi_wp2_with fail
  refine ⟨trivial, ?_⟩
  with_reducible refine (callsIn_wide.2 (all_any ⟨n, a, len, cap, l⟩ _)).mono ?_
  rintro e w' ⟨rfl, rfl⟩
  gi_wp2_with fail
  have hB0 : Below w.heap.size w (((w.alloc (.cells #[.int .i64 n, .slice a len cap] 32)).alloc (.cells #[.int .i64 0] 3)).alloc (.cells #[.int .i64 n, .slice a len cap] 32)) := (((Below.refl _ w).alloc (Nat.le_refl _) _).alloc (by simp) _).alloc (by simp; omega) _
  have hbb := Boxed.new (w.alloc (.cells #[.int .i64 n, .slice a len cap] 32)) 3 (.int .i64 0)
  rw [World.size_alloc] at hbb
  refine wpIn_rangeFunc_ownG rfl (by omega) (gf := 64) (lb := #[.pointer (some ⟨w.heap.size + 1 + 1, 0, none⟩)]) rfl trivial (enters_of Try.func64 (by kernel_rfl) rfl)
    HST.out KeepsOn.trans (keepsOn_b (by simp; omega) (by simp)) (Below.refl _ _) (fun _ => rfl)
    (fun pre W => Boxed W (w.heap.size + 1) 3 (.int .i64 (cntL pre : Nat)) ∧ Below w.heap.size w W)
    (fun _ _ _ => False)
    (Go.OwnFrom.and (Go.Own.from (boxed_own _ _ _) _) (ownFrom_below (Nat.le_refl _) (by simp; omega)))
    (fun _ _ _ _ _ hs _ _ => hs)
    ⟨hbb.alloc _, hB0⟩
    (fun p => { tmps := #[.agg #[.int .i64 n, .slice a len cap], .pointer (some ⟨w.heap.size, 0, none⟩), .int .i64 0, .pointer (some ⟨w.heap.size + 1, 0, none⟩), undef, .bool p.2, .agg #[.int .i64 n, .slice a len cap],
      .func (.func 64) #[] #[.pointer (some ⟨w.heap.size + 1 + 1, 0, none⟩)], .int .i64 (p.1 : Int), .bool p.2, undef, undef, undef, undef], defers := [] }) ?assign ?body ?done ?stop
  case assign =>
    intro l x W K hK
    gi_wp2
    exact hK
  case body =>
    rintro l pre ⟨j, b⟩ W ⟨hbu, hB⟩ hlt
    have hc := hbu.cell
    have hf := hbu.frozen
    have hcl := cntL_le pre
    have HS := Lib.hid (cntL_snoc pre (j, b))
    have hlb := hbu.lt
    obtain ⟨q, hq⟩ : ∃ q, q = cntL pre := ⟨_, rfl⟩
    rw [← hq] at hc hcl HS hbu
    have HBU := Lib.hid hbu
    clear hq hbu
    cases b
    · gi_wp2
      exact ⟨KeepsFrom.refl _ _, KeepsOn.refl _ _ _, by rw [HS.out]; exact HBU.out, hB⟩
    · gi_wp2
      refine ⟨(KeepsOthers.setCell _ _ _).from _, ⟨rfl, rfl, rfl, by simp [World.setCell], fun k hk hkl => Below.heap_setCell _ _ _ _ (by simp only; omega)⟩, ?_, hB.setCell (p := ⟨w.heap.size + 1, 0, none⟩) (by simp) _⟩
      rw [HS.out]
      exact HBU.out.set _
  case done =>
    rintro D ys W hD rfl ⟨hbu, hB⟩ hK
    have hc := hbu.cell
    rw [HCP.out] at hc
    gi_wp2
    refine ⟨by simp, .inl ⟨_, _, rfl, run_takeDeferred hK, ?_⟩⟩
    exact ⟨_, results_tmp rfl _ _ _, rfl, hB.trans (belowK_b (w := w) (Nat.le_refl _) W D _ _ (by simp at hD; omega) hK rfl rfl)⟩
  case stop =>
    rintro D c pre W _ _ h _
    exact h.elim
end Go.Proofs.Ytkbdpdcandpfdaa
