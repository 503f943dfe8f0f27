/- The walks of package bits, 5: into. -/
import Derived.Test.YtkbdpdcandpfdaaPlainInto
import Derived.Test.YtkbdpdcandpfdaaW13
namespace Go.Proofs.Ytkbdpdcandpfdaa
open Go.RowKit
set_option linter.unusedVariables false
set_option linter.unusedSimpArgs false

theorem run_tail {P : Program} {w : World} (t : TypeId) (ht : P.underlying t = some (.slice (P.elem t))) (hsz : ∀ w, (sizeOf (P.elem t)).run P w = .ok 1 w) (a : Option Addr) (len cap : Nat) (k : IntKind) (v : Int) (p : Nat) (hv : v = p) (h1 : p ≤ len) :
    (Instr.slice t (.slice a len cap) (some (.int k v)) none none).run P w = .ok (.slice (if cap = p then a else a.map fun x => x.add p) (len - p) (cap - p)) w := by
  subst hv
  rw [run_slice_l w t a len cap ht k p (by omega) (by omega), hsz]
  simp [Result.andThen, sliced]

set_option maxHeartbeats 2000000 in
set_option maxRecDepth 100000 in
theorem into_any (n : Int) (g m cap : Nat) (hd : List Bool) (r : Nat) (av fv tv : Int) (f t : Nat) (x : RB) (bs : List Bool) (w : World)
    (hg : Blk w .u8 5 g (pack (hd ++ List.replicate r false))) (hm : m = (hd.length + r + 7) / 8) (hcap : m ≤ cap) (hmax : cap ≤ 9223372036854775807) (hlen : hd.length + r ≤ 1000000)
    (hav : av = hd.length) (hfv : fv = f) (htv : tv = t) (hx : x.Is w bs) (hxg : 0 < bs.length → ∀ a, x.a = some a → a.block ≠ g) (h1 : f ≤ t) (h2 : t ≤ bs.length) (hr : t - f ≤ r) :
    Calls Try.prog 66 #[.agg #[.int .i64 n, .slice (some ⟨g, 0, none⟩) m cap], .int .i64 av, x.val, .int .i64 fv, .int .i64 tv] w fun e w' =>
      e = .returned (.tuple #[]) ∧ Blk w' .u8 5 g (pack (hd ++ (part bs f t ++ List.replicate (r - (t - f)) false))) ∧ KeepsBut g w w' := by
  subst hav hfv htv hm
  have hmost := hx.most
  obtain ⟨a, bcap, rfl⟩ := hx.shape
  have hbc := hx.isIn.cap
  have hbm := hx.isIn.max
  simp only at hbc hbm
  have HX := Lib.hid hx
  have HG := Lib.hid hg
  have HXG := Lib.hid hxg
  clear hx hg hxg
  have hgl := HG.out.lt
  show Calls Try.prog 66 #[.agg #[.int .i64 n, .slice (some ⟨g, 0, none⟩) ((hd.length + r + 7) / 8) cap], .int .i64 hd.length, .agg #[.int .i64 bs.length, .slice a ((bs.length + 7) / 8) bcap], .int .i64 f, .int .i64 t] w _
  have hk0 := ((Keeps.refl w).alloc (.cells #[.int .i64 n, .slice (some ⟨g, 0, none⟩) ((hd.length + r + 7) / 8) cap] 32)).alloc (.cells #[.int .i64 bs.length, .slice a ((bs.length + 7) / 8) bcap] 32)
  have HK0 := Lib.hid hk0
  clear hk0
  have hno0 : ¬ w.heap.size = g := by omega
  have hno1 : ¬ w.heap.size + 1 = g := by omega
  obtain ⟨q, hq⟩ : ∃ q, q = hd.length / 8 := ⟨_, rfl⟩
  obtain ⟨p, hp⟩ : ∃ p, p = f / 8 := ⟨_, rfl⟩
  by_cases hc : hd.length % 8 = 0 ∧ f % 8 = 0 ∧ t = bs.length
  · obtain ⟨hc1, hc2, rfl⟩ := hc
    have hd1 : ((hd.length : Int) % 8 == 0) = true := by rw [beq_iff_eq]; omega
    have hd2 : ((f : Int) % 8 == 0) = true := by rw [beq_iff_eq]; omega
    have hd3 : ((bs.length : Int) == bs.length) = true := by simp
    have hs1 := fun w => run_tail (P := Try.prog) (w := w) 30 (by kernel_rfl) (fun w => by simp [go_sem]) (some ⟨g, 0, none⟩) ((hd.length + r + 7) / 8) cap .i64 ((hd.length : Int) / 8) q (by omega) (by omega)
    have hs2 := fun w => run_tail (P := Try.prog) (w := w) 30 (by kernel_rfl) (fun w => by simp [go_sem]) a ((bs.length + 7) / 8) bcap .i64 ((f : Int) / 8) p (by omega) (by omega)
    obtain ⟨a1, ha1⟩ : ∃ a1, a1 = (if cap = q then some (⟨g, 0, none⟩ : Addr) else (some (⟨g, 0, none⟩ : Addr)).map fun x => x.add q) := ⟨_, rfl⟩
    obtain ⟨a2, ha2⟩ : ∃ a2, a2 = (if bcap = p then a else a.map fun x => x.add p) := ⟨_, rfl⟩
    rw [← ha1] at hs1
    rw [← ha2] at hs2
    have HA1 := Lib.hid ha1
    have HA2 := Lib.hid ha2
    have HH := Lib.hid (show hd.length = 8 * q ∧ f = 8 * p from ⟨by omega, by omega⟩)
    have hlp : (pack bs).length = (bs.length + 7) / 8 := pack_len _
    have hll : (pack (hd ++ List.replicate r false)).length = (hd.length + r + 7) / 8 := by rw [pack_len]; simp
    have hrow := HX.out.isIn.row.cut p bcap (show p ≤ (bs.length + 7) / 8 by omega) hbc
    simp only at hrow
    rw [← ha2] at hrow
    have HR := Lib.hid hrow
    have hov := over_pack hd r q p bs (by omega) (by omega) (by omega)
    rw [show 8 * p = f by omega] at hov
    have HOV := Lib.hid hov
    have htk : ((pack bs).drop p).take (min ((bs.length + 7) / 8 - p) ((hd.length + r + 7) / 8 - q)) = (pack bs).drop p := by
      rw [Nat.min_eq_left (by omega), List.take_of_length_le (by rw [List.length_drop, hlp]; omega)]
    have HTK := Lib.hid htk
    have HLL := Lib.hid hll
    clear hlp hll hrow hov htk
    clear ha1 ha2 hq hp
    go_enter Try.func66, Try.ntmps66
    go_wp2_with fail
    refine wp_region_quiet_tail_lit 10 (by kernel_rfl) (by kernel_rfl) ?_
    simp only [List.take_succ_cons, List.take_zero, List.drop_succ_cons, List.drop_zero]
    repeat (go_big_quiet_step (fail))
    refine wpQuiet_nil ?_
    rintro _ ⟨nq, rfl⟩
    refine wpList_copy_blk rfl (.tmp 29) (.tmp 34) 30 30 rfl 5 Try.underlying30 size_u8 .u8 _ _ _ _ _ _ rfl rfl g q 5 _ _ (by exact HG.out.keeps (HK0.out.drewN nq)) (by exact HR.out.keeps (HK0.out.drewN nq)) ?hp ?hfit ?hmain
    case hp => intro hpos; rw [HA1.out]; exact cut_addr g q cap (by omega)
    case hfit => rw [HLL.out]; have := HH.out; omega
    case hmain =>
      intro w2 hb2 hk2
      rw [HTK.out, HOV.out] at hb2
      have HB2 := Lib.hid hb2
      have HK2 := Lib.hid (((HK0.out.drewN nq).but g).trans hk2)
      clear hb2 hk2
      go_wp2

      refine bodyPost_ret (results_none rfl _ _ _) rfl ?_
      exact ⟨rfl, HB2.out, HK2.out⟩
  · have hd0 : ((hd.length : Int) % 8 == 0) = true ∨ ((hd.length : Int) % 8 == 0) = false := by cases ((hd.length : Int) % 8 == 0) <;> simp
    have hd0' : ((f : Int) % 8 == 0) = true ∨ ((f : Int) % 8 == 0) = false := by cases ((f : Int) % 8 == 0) <;> simp
    have hd3 : hd.length % 8 = 0 ∧ f % 8 = 0 → ((t : Int) == bs.length) = false := fun h => by rw [beq_eq_false_iff_ne]; omega
    rcases hd0 with hd1 | hd1
    · rcases hd0' with hd2 | hd2
      · have hd3' := hd3 (by rw [beq_iff_eq] at hd1 hd2; omega)
        clear hd3 hc hq hp
        go_enter Try.func66, Try.ntmps66
        go_wp2_with fail
        clear hd1
        go_loopw [10] (fun i wr => ∃ k : Nat, k ≤ t - f ∧ i = .int .i64 (f + k : Nat) ∧ Hid (Blk wr .u8 5 g (pack (inTo hd r (part bs f t) k))) ∧
          Hid (Box wr w.heap.size 32 #[.int .i64 n, .slice (some ⟨g, 0, none⟩) ((hd.length + r + 7) / 8) cap]) ∧
          Hid (Box wr (w.heap.size + 1) 32 #[.int .i64 bs.length, .slice a ((bs.length + 7) / 8) bcap]) ∧ Hid (KeepsBut g w wr)) (fun i _ => t - (intOf i).toNat)
        case atStart =>
          refine ⟨0, by omega, by simp, ?_, ?_, ?_, HK0.out.but g⟩
          · rw [inTo_zero]; exact HG.out.keeps HK0.out
          · exact (Box.new w _ _).next _
          · have := Box.new (w.alloc (.cells #[.int .i64 n, .slice (some ⟨g, 0, none⟩) ((hd.length + r + 7) / 8) cap] 32)) 32 #[.int .i64 bs.length, .slice a ((bs.length + 7) / 8) bcap]
            rw [World.size_alloc] at this
            exact this
        case round =>
          clear HK0 HG
          obtain ⟨k, hk, rfl, HB, HX1, HX2, HK⟩ := hrel
          by_cases hlt : k < t - f
          · have hb0 := HX1.out.cell 0 _ rfl
            have hb1 := HX1.out.cell 1 _ rfl
            have hb2 := HX2.out.cell 0 _ rfl
            have hb3 := HX2.out.cell 1 _ rfl
            have hdl : decide (f + k < t) = true := by simp; omega
            obtain ⟨b, hb⟩ : ∃ b, bs.getD (f + k) false = b := ⟨_, rfl⟩
            have HBB := Lib.hid hb
            clear hb
            go_wp2_with fail
            with_reducible refine (has_ok ⟨bs.length, a, (bs.length + 7) / 8, bcap, pack bs⟩ bs _ (f + k) b _ (by omega) HBB.out (by exact HX.out.keepsBut HK.out (HXG.out (by omega))) (by omega)).mono ?_
            rintro e w2 ⟨rfl, hk2⟩
            have HB2 := Lib.hid (HB.out.keeps hk2)
            have HX12 := Lib.hid (HX1.out.keeps hk2)
            have HX22 := Lib.hid (HX2.out.keeps hk2)
            have HK2 := Lib.hid (HK.out.trans (hk2.but g))
            clear hk2 hb0 hb1 hb2 hb3 HB HX1 HX2 HK
            have hb0 := HX12.out.cell 0 _ rfl
            have hb1 := HX12.out.cell 1 _ rfl
            have hpl := part_len bs f t h2
            have hpg := part_getD bs f t k h2 hlt
            rw [HBB.out] at hpg
            have HPG := Lib.hid hpg
            clear hpg
            cases b
            · go_wp2_with fail
              go_roundw
              case rel => exact ⟨k + 1, by omega, by go_num, by rw [inTo_no _ _ _ _ (by omega) (by omega) HPG.out]; exact HB2, HX12, HX22, HK2⟩
              case measure => simp [intOf]; omega
            · go_wp2_with fail
              with_reducible refine (set_ok n g _ cap (inTo hd r (part bs f t) k) _ (hd.length + k) _ (by omega) HB2.out (by rw [inTo_len _ _ _ _ (by omega) (by omega)]) (by rw [inTo_len _ _ _ _ (by omega) (by omega)]; omega) hcap hmax (by rw [inTo_len _ _ _ _ (by omega) (by omega)]; omega)).mono ?_
              rintro e w3 ⟨rfl, hbl, hkb⟩
              rw [← inTo_yes _ _ _ _ (by omega) (by omega) HPG.out] at hbl
              have HB3 := Lib.hid hbl
              have HX13 := Lib.hid (HX12.out.keepsBut hkb (by omega))
              have HX23 := Lib.hid (HX22.out.keepsBut hkb (by omega))
              have HK3 := Lib.hid (HK2.out.trans hkb)
              clear hbl hkb hb0 hb1 HB2 HX12 HX22 HK2
              go_wp2_with fail
              go_roundw
              case rel => exact ⟨k + 1, by omega, by go_num, HB3, HX13, HX23, HK3⟩
              case measure => simp [intOf]; omega
          · obtain rfl : k = t - f := by omega
            have hdl : decide (f + (t - f) < t) = false := by simp; omega
            go_wp2_with fail
            go_end0
            refine ⟨rfl, ?_, HK.out⟩
            have hb := HB.out
            have hpl := part_len bs f t h2
            have e := inTo_all hd r (part bs f t)
            rw [hpl] at e
            rw [e] at hb
            exact hb

      · clear hd3 hc hq hp
        go_enter Try.func66, Try.ntmps66
        go_wp2_with fail
        clear hd1
        go_loopw [10] (fun i wr => ∃ k : Nat, k ≤ t - f ∧ i = .int .i64 (f + k : Nat) ∧ Hid (Blk wr .u8 5 g (pack (inTo hd r (part bs f t) k))) ∧
          Hid (Box wr w.heap.size 32 #[.int .i64 n, .slice (some ⟨g, 0, none⟩) ((hd.length + r + 7) / 8) cap]) ∧
          Hid (Box wr (w.heap.size + 1) 32 #[.int .i64 bs.length, .slice a ((bs.length + 7) / 8) bcap]) ∧ Hid (KeepsBut g w wr)) (fun i _ => t - (intOf i).toNat)
        case atStart =>
          refine ⟨0, by omega, by simp, ?_, ?_, ?_, HK0.out.but g⟩
          · rw [inTo_zero]; exact HG.out.keeps HK0.out
          · exact (Box.new w _ _).next _
          · have := Box.new (w.alloc (.cells #[.int .i64 n, .slice (some ⟨g, 0, none⟩) ((hd.length + r + 7) / 8) cap] 32)) 32 #[.int .i64 bs.length, .slice a ((bs.length + 7) / 8) bcap]
            rw [World.size_alloc] at this
            exact this
        case round =>
          clear HK0 HG
          obtain ⟨k, hk, rfl, HB, HX1, HX2, HK⟩ := hrel
          by_cases hlt : k < t - f
          · have hb0 := HX1.out.cell 0 _ rfl
            have hb1 := HX1.out.cell 1 _ rfl
            have hb2 := HX2.out.cell 0 _ rfl
            have hb3 := HX2.out.cell 1 _ rfl
            have hdl : decide (f + k < t) = true := by simp; omega
            obtain ⟨b, hb⟩ : ∃ b, bs.getD (f + k) false = b := ⟨_, rfl⟩
            have HBB := Lib.hid hb
            clear hb
            go_wp2_with fail
            with_reducible refine (has_ok ⟨bs.length, a, (bs.length + 7) / 8, bcap, pack bs⟩ bs _ (f + k) b _ (by omega) HBB.out (by exact HX.out.keepsBut HK.out (HXG.out (by omega))) (by omega)).mono ?_
            rintro e w2 ⟨rfl, hk2⟩
            have HB2 := Lib.hid (HB.out.keeps hk2)
            have HX12 := Lib.hid (HX1.out.keeps hk2)
            have HX22 := Lib.hid (HX2.out.keeps hk2)
            have HK2 := Lib.hid (HK.out.trans (hk2.but g))
            clear hk2 hb0 hb1 hb2 hb3 HB HX1 HX2 HK
            have hb0 := HX12.out.cell 0 _ rfl
            have hb1 := HX12.out.cell 1 _ rfl
            have hpl := part_len bs f t h2
            have hpg := part_getD bs f t k h2 hlt
            rw [HBB.out] at hpg
            have HPG := Lib.hid hpg
            clear hpg
            cases b
            · go_wp2_with fail
              go_roundw
              case rel => exact ⟨k + 1, by omega, by go_num, by rw [inTo_no _ _ _ _ (by omega) (by omega) HPG.out]; exact HB2, HX12, HX22, HK2⟩
              case measure => simp [intOf]; omega
            · go_wp2_with fail
              with_reducible refine (set_ok n g _ cap (inTo hd r (part bs f t) k) _ (hd.length + k) _ (by omega) HB2.out (by rw [inTo_len _ _ _ _ (by omega) (by omega)]) (by rw [inTo_len _ _ _ _ (by omega) (by omega)]; omega) hcap hmax (by rw [inTo_len _ _ _ _ (by omega) (by omega)]; omega)).mono ?_
              rintro e w3 ⟨rfl, hbl, hkb⟩
              rw [← inTo_yes _ _ _ _ (by omega) (by omega) HPG.out] at hbl
              have HB3 := Lib.hid hbl
              have HX13 := Lib.hid (HX12.out.keepsBut hkb (by omega))
              have HX23 := Lib.hid (HX22.out.keepsBut hkb (by omega))
              have HK3 := Lib.hid (HK2.out.trans hkb)
              clear hbl hkb hb0 hb1 HB2 HX12 HX22 HK2
              go_wp2_with fail
              go_roundw
              case rel => exact ⟨k + 1, by omega, by go_num, HB3, HX13, HX23, HK3⟩
              case measure => simp [intOf]; omega
          · obtain rfl : k = t - f := by omega
            have hdl : decide (f + (t - f) < t) = false := by simp; omega
            go_wp2_with fail
            go_end0
            refine ⟨rfl, ?_, HK.out⟩
            have hb := HB.out
            have hpl := part_len bs f t h2
            have e := inTo_all hd r (part bs f t)
            rw [hpl] at e
            rw [e] at hb
            exact hb

    · clear hd3 hc hq hp hd0'
      go_enter Try.func66, Try.ntmps66
      go_wp2_with fail
      clear hd1
      go_loopw [10] (fun i wr => ∃ k : Nat, k ≤ t - f ∧ i = .int .i64 (f + k : Nat) ∧ Hid (Blk wr .u8 5 g (pack (inTo hd r (part bs f t) k))) ∧
        Hid (Box wr w.heap.size 32 #[.int .i64 n, .slice (some ⟨g, 0, none⟩) ((hd.length + r + 7) / 8) cap]) ∧
        Hid (Box wr (w.heap.size + 1) 32 #[.int .i64 bs.length, .slice a ((bs.length + 7) / 8) bcap]) ∧ Hid (KeepsBut g w wr)) (fun i _ => t - (intOf i).toNat)
      case atStart =>
        refine ⟨0, by omega, by simp, ?_, ?_, ?_, HK0.out.but g⟩
        · rw [inTo_zero]; exact HG.out.keeps HK0.out
        · exact (Box.new w _ _).next _
        · have := Box.new (w.alloc (.cells #[.int .i64 n, .slice (some ⟨g, 0, none⟩) ((hd.length + r + 7) / 8) cap] 32)) 32 #[.int .i64 bs.length, .slice a ((bs.length + 7) / 8) bcap]
          rw [World.size_alloc] at this
          exact this
      case round =>
        clear HK0 HG
        obtain ⟨k, hk, rfl, HB, HX1, HX2, HK⟩ := hrel
        by_cases hlt : k < t - f
        · have hb0 := HX1.out.cell 0 _ rfl
          have hb1 := HX1.out.cell 1 _ rfl
          have hb2 := HX2.out.cell 0 _ rfl
          have hb3 := HX2.out.cell 1 _ rfl
          have hdl : decide (f + k < t) = true := by simp; omega
          obtain ⟨b, hb⟩ : ∃ b, bs.getD (f + k) false = b := ⟨_, rfl⟩
          have HBB := Lib.hid hb
          clear hb
          go_wp2_with fail
          with_reducible refine (has_ok ⟨bs.length, a, (bs.length + 7) / 8, bcap, pack bs⟩ bs _ (f + k) b _ (by omega) HBB.out (by exact HX.out.keepsBut HK.out (HXG.out (by omega))) (by omega)).mono ?_
          rintro e w2 ⟨rfl, hk2⟩
          have HB2 := Lib.hid (HB.out.keeps hk2)
          have HX12 := Lib.hid (HX1.out.keeps hk2)
          have HX22 := Lib.hid (HX2.out.keeps hk2)
          have HK2 := Lib.hid (HK.out.trans (hk2.but g))
          clear hk2 hb0 hb1 hb2 hb3 HB HX1 HX2 HK
          have hb0 := HX12.out.cell 0 _ rfl
          have hb1 := HX12.out.cell 1 _ rfl
          have hpl := part_len bs f t h2
          have hpg := part_getD bs f t k h2 hlt
          rw [HBB.out] at hpg
          have HPG := Lib.hid hpg
          clear hpg
          cases b
          · go_wp2_with fail
            go_roundw
            case rel => exact ⟨k + 1, by omega, by go_num, by rw [inTo_no _ _ _ _ (by omega) (by omega) HPG.out]; exact HB2, HX12, HX22, HK2⟩
            case measure => simp [intOf]; omega
          · go_wp2_with fail
            with_reducible refine (set_ok n g _ cap (inTo hd r (part bs f t) k) _ (hd.length + k) _ (by omega) HB2.out (by rw [inTo_len _ _ _ _ (by omega) (by omega)]) (by rw [inTo_len _ _ _ _ (by omega) (by omega)]; omega) hcap hmax (by rw [inTo_len _ _ _ _ (by omega) (by omega)]; omega)).mono ?_
            rintro e w3 ⟨rfl, hbl, hkb⟩
            rw [← inTo_yes _ _ _ _ (by omega) (by omega) HPG.out] at hbl
            have HB3 := Lib.hid hbl
            have HX13 := Lib.hid (HX12.out.keepsBut hkb (by omega))
            have HX23 := Lib.hid (HX22.out.keepsBut hkb (by omega))
            have HK3 := Lib.hid (HK2.out.trans hkb)
            clear hbl hkb hb0 hb1 HB2 HX12 HX22 HK2
            go_wp2_with fail
            go_roundw
            case rel => exact ⟨k + 1, by omega, by go_num, HB3, HX13, HX23, HK3⟩
            case measure => simp [intOf]; omega
        · obtain rfl : k = t - f := by omega
          have hdl : decide (f + (t - f) < t) = false := by simp; omega
          go_wp2_with fail
          go_end0
          refine ⟨rfl, ?_, HK.out⟩
          have hb := HB.out
          have hpl := part_len bs f t h2
          have e := inTo_all hd r (part bs f t)
          rw [hpl] at e
          rw [e] at hb
          exact hb

end Go.Proofs.Ytkbdpdcandpfdaa
