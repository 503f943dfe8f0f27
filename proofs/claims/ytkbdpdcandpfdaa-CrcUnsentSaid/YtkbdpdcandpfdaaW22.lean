/- The walks of the statements of layer 2, 2: xor, CrcLinear. -/
import Derived.Test.YtkbdpdcandpfdaaW20
import Derived.Test.YtkbdpdcandpfdaaW17
import Derived.Test.YtkbdpdcandpfdaaW12
import Derived.Deep.RegionHeld3
namespace Go.Proofs.Ytkbdpdcandpfdaa
open Go.RowKit
set_option linter.unusedVariables false
set_option linter.unusedSimpArgs false

/-- the places where bits are 1, of the first k -/
def onesTo (cs : List Bool) (k : Nat) : List Int := ((List.range k).filter fun i => cs.getD i false).map fun i : Nat => (i : Int)
theorem onesTo_zero (cs : List Bool) : onesTo cs 0 = [] := rfl
theorem onesTo_yes (cs : List Bool) (k : Nat) (h : cs.getD k false = true) : onesTo cs (k + 1) = onesTo cs k ++ [(k : Int)] := by
  unfold onesTo
  rw [List.range_succ, List.filter_append, List.map_append, List.filter_cons, if_pos h, List.filter_nil]
  rfl
theorem onesTo_no (cs : List Bool) (k : Nat) (h : cs.getD k false = false) : onesTo cs (k + 1) = onesTo cs k := by
  unfold onesTo
  rw [List.range_succ, List.filter_append, List.map_append, List.filter_cons, if_neg (by rw [h]; decide), List.filter_nil]
  simp
theorem onesTo_len (cs : List Bool) (k : Nat) : (onesTo cs k).length ≤ k := by
  unfold onesTo
  rw [List.length_map]
  exact Nat.le_trans (List.length_filter_le _ _) (by simp)

theorem info_int : (Try.prog.info? 3).map (fun i => (i.zero, i.size, i.bytes)) = some (some (.int .i64 0), 1, 8) := by kernel_rfl

set_option maxHeartbeats 2000000 in
set_option maxRecDepth 100000 in
theorem xor_any (x y : RB) (bs cs : List Bool) (w : World) (hx : x.Is w bs) (hy : y.Is w cs) (hl : cs.length = bs.length) :
    Calls Try.prog 20 #[x.val, y.val] w fun e w' => ∃ z : RB, e = .returned z.val ∧ z.Is w' (flipIs bs (onesTo cs cs.length)).1 ∧ Keeps w w' := by
  have HX := Lib.hid hx
  have hm := hx.most
  obtain ⟨a, cap, rfl⟩ := hx.shape
  have hyc := hy
  obtain ⟨b, cap2, rfl⟩ := hy.shape
  have HY := Lib.hid hyc
  rw [hl] at HY
  clear hx hy hyc
  show Calls Try.prog 20 #[.agg #[.int .i64 bs.length, .slice a ((bs.length + 7) / 8) cap], .agg #[.int .i64 cs.length, .slice b ((cs.length + 7) / 8) cap2]] w _
  rw [hl]
  have HL := Lib.hid hl
  clear hl
  have HK0 := Lib.hid ((((Keeps.refl w).alloc (.cells #[.int .i64 bs.length, .slice a ((bs.length + 7) / 8) cap] 32)).alloc (.cells #[.int .i64 bs.length, .slice b ((bs.length + 7) / 8) cap2] 32)).alloc (.cells #[.int .i64 0, .slice none 0 0] 32))
  go_enter Try.func20, Try.ntmps20
  go_wp2_with fail
  go_region_held3 (fun w' => Hid (Keeps w w') ∧ w'.cell? ⟨w.heap.size, 0, none⟩ = some (.int .i64 bs.length) ∧ w'.cell? ⟨w.heap.size, 1, none⟩ = some (.slice a ((bs.length + 7) / 8) cap) ∧
      w'.cell? ⟨w.heap.size + 1, 0, none⟩ = some (.int .i64 bs.length) ∧ w'.cell? ⟨w.heap.size + 1, 1, none⟩ = some (.slice b ((bs.length + 7) / 8) cap2)) (first | exact ⟨HKn, q1, q2, q3, q4⟩ | (refine ⟨Lib.hid (HK0.out.drewN 1), ?_⟩; go_keep)) (first
    | (go_at_call 34; with_reducible refine (rlist_ok ⟨bs.length, a, (bs.length + 7) / 8, cap, pack bs⟩ bs _ (by exact HX.out.keeps (Hid.out (And.left (by assumption))))).mono ?_; rintro e w' ⟨v, rfl, hown, hk⟩; obtain ⟨hS0, hS1, hS2, hS3, hS4⟩ := ‹Hid (Keeps w _) ∧ _›; have q1 := hk.later hS1; have q2 := hk.later hS2; have q3 := hk.later hS3; have q4 := hk.later hS4; have HKn := Lib.hid (hS0.out.trans hk))
    | (go_at_call 34; with_reducible refine (rlist_ok ⟨bs.length, b, (bs.length + 7) / 8, cap2, pack cs⟩ cs _ (by exact HY.out.keeps (Hid.out (And.left (by assumption))))).mono ?_; rintro e w' ⟨v, rfl, hown, hk⟩; obtain ⟨hS0, hS1, hS2, hS3, hS4⟩ := ‹Hid (Keeps w _) ∧ _›; have q1 := hk.later hS1; have q2 := hk.later hS2; have q3 := hk.later hS3; have q4 := hk.later hS4; have HKn := Lib.hid (hS0.out.trans hk)))
  rename_i w1 v1 hown1 hk1 a0 a1 a2 a3 a4 b1 b2 b3 b4 HKm hH
  clear hH hS0 hS1 hS2 hS3 hS4 a0 a1 a2 a3 a4 b1 b2 b3 b4 HKm q3 q4
  have hz := ((Box.new ((w.alloc (.cells #[.int .i64 bs.length, .slice a ((bs.length + 7) / 8) cap] 32)).alloc (.cells #[.int .i64 bs.length, .slice b ((bs.length + 7) / 8) cap2] 32)) 32 #[.int .i64 0, .slice none 0 0]).keeps ((Keeps.refl _).drew.trans (hk1.trans hk)))
  rw [World.size_alloc, World.size_alloc] at hz
  have HZ := Lib.hid hz
  have hzl := hz.lt
  obtain ⟨la, lcap, rfl, hlc, hlm, -⟩ := hown1.bools.shape
  obtain ⟨lb, lcap2, rfl, hlc2, hlm2, hrb⟩ := hown.bools.shape
  have HRB := Lib.hid hrb
  clear hown1 hown hk1 hk hrb hz HK0
  rw [HL.out] at hlc2
  obtain ⟨nc, hnc⟩ : ∃ nc, nc = cs.length := ⟨_, rfl⟩
  have hnb : nc = bs.length := by rw [hnc]; exact HL.out
  rw [← hnc]
  have HNC := Lib.hid hnc
  clear hnc
  subst hnb
  go_wp2_with fail
  go_loopw [5, 8] (fun l i wr => ∃ k : Nat, k ≤ bs.length ∧ i = .int .i64 k ∧ Hid (Own wr w'.heap.size 3 l ((onesTo cs k).map (Value.int .i64))) ∧ Hid (Keeps w' wr)) (fun _ i _ => bs.length - (intOf i).toNat)
  case atStart => exact ⟨0, by omega, rfl, Own.nil _ _ _, Keeps.refl _⟩
  case round =>
    obtain ⟨k, hk, rfl, HO, HK⟩ := hrel
    by_cases hlt : k < bs.length
    · have hd1 : decide ((k : Int) < bs.length) = true := by simp; omega
      have hd2 : decide (k < bs.length) = true := by simp; omega
      have hrb := HRB.out.boolAt (by rw [← HNC.out]; omega)
      obtain ⟨lg, lo, rfl, hcb, hlg⟩ := hrb
      have hcell := HK.out.later (hcb k (by rw [← HNC.out]; exact hlt))
      obtain ⟨y, hy⟩ : ∃ y, cs.getD k false = y := ⟨_, rfl⟩
      rw [hy] at hcell
      have HYE := Lib.hid hy
      clear hy hcb
      have holen := onesTo_len cs k
      have HOL := Lib.hid holen
      clear holen
      have hws := HK.out.size
      cases y
      · go_wp2_with fail
        go_roundw
        case rel => exact ⟨k + 1, by omega, by go_num, by rw [onesTo_no _ _ HYE.out]; exact HO, HK⟩
        case measure => simp [intOf]; omega
      · go_wp2_with (refine wpList_push rfl (.tmp 31) (.tmp 33) 63 rfl 3 8 (.int .i64 0) Try.underlying63 info_int rfl w'.heap.size _ _ rfl (by exact HO.out.keeps ((Keeps.refl _).alloc _)) _ _ rfl (by exact World.cell?_alloc_new _ _ _ _) rfl ?h1 ?h2 ?h3 ?hmain)
        case h1 => rw [List.length_map]; have := HOL.out; omega
        case h2 => rw [List.length_map]; have := HOL.out; omega
        case h3 => simp; omega
        case hmain =>
          intro v2 w3 hown hbel
          have HO3 : Hid (Own w3 w'.heap.size 3 v2 ((onesTo cs (k + 1)).map (Value.int .i64))) := by
            rw [onesTo_yes _ _ HYE.out, List.map_append]; exact hown
          have HK3 : Hid (Keeps w' w3) := (HK.out.alloc _).below hbel (Nat.le_refl _)
          clear hown hbel HO HK hcell
          go_wp2_with fail
          go_roundw
          case rel => exact ⟨k + 1, by omega, by go_num, HO3, HK3⟩
          case measure => simp [intOf]; omega
    · obtain rfl : k = bs.length := by omega
      have hd1 : decide ((bs.length : Int) < bs.length) = false := by simp
      have hd2 : decide (bs.length < bs.length) = false := by simp
      have p1 := HK.out.later q1
      have p2 := HK.out.later q2
      have hws := HK.out.size
      go_wp2_with fail
      with_reducible refine (rflip_any ⟨bs.length, a, (bs.length + 7) / 8, cap, pack bs⟩ _ (onesTo cs bs.length) _ (by exact (HX.out.keeps (HKn.out.trans HK.out)).isIn) (by exact HO.out.ints)).mono ?_
      rintro e w3 ⟨z, rfl, hzi, hzf, hk3⟩
      rw [show flipRes ⟨bs.length, a, (bs.length + 7) / 8, cap, pack bs⟩ (onesTo cs bs.length) = flipIs bs (onesTo cs cs.length) by
        unfold flipRes; rw [if_pos HX.out.chk, HX.out.bits, ← HNC.out]] at hzi ⊢
      have HZI := Lib.hid hzi
      have HZF := Lib.hid hzf
      have HZB := Lib.hid (HZ.out.keeps (HK.out.trans hk3))
      have HK3 := Lib.hid ((HKn.out.trans HK.out).trans hk3)
      have hws3 := hk3.size
      clear hzi hzf hk3 HO HK p1 p2 HZ
      obtain ⟨n, zb, len, cap3, l3⟩ := z
      have hz0 := HZB.out.cell 0 _ rfl
      have hz1 := HZB.out.cell 1 _ rfl
      have hzfr := HZB.out.frozen
      have hzl3 := HZB.out.lt
      go_wp2_with fail
      refine bodyPost_ret (by simp [results, Try.results20, go_sem, RB.val, *]) rfl ⟨⟨n, zb, len, cap3, l3⟩, rfl, ?_, ?_⟩
      · rw [HNC.out]
        exact ((HZI.out.put HZF.out (by omega) _ _).put HZF.out (by omega) _ _).keeps ((Keeps.refl _).alloc _)
      · exact ((HK3.out.setCell (by simp; omega) _).setCell (by simp; omega) _).alloc _
end Go.Proofs.Ytkbdpdcandpfdaa
