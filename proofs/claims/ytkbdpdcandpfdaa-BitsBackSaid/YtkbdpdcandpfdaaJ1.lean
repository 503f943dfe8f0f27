/- The walks of package bits: Join. -/
import Derived.Test.YtkbdpdcandpfdaaPlainJoin
import Derived.Test.YtkbdpdcandpfdaaW19
import Derived.Test.YtkbdpdcandpfdaaW16
namespace Go.Proofs.Ytkbdpdcandpfdaa
open Go.RowKit
set_option linter.unusedVariables false
set_option linter.unusedSimpArgs false
set_option maxRecDepth 100000 in
set_option maxHeartbeats 2000000 in
theorem join_any (a : Option Addr) (n cap : Nat) (xs : List RB) (w : World) (hx : RBs w a n cap xs) :
    Calls Try.prog 49 #[.slice a n cap] w fun e w' => Res w w' e (joinRes xs) := by
  have HX := Lib.hid hx
  have hlen := hx.len
  have hcap := hx.hcap
  have hmax := hx.hmax
  subst hlen
  clear hx
  have HNO := Lib.hid (joinRes_no xs)
  have HLONG := Lib.hid (joinRes_long xs)
  have HYES := Lib.hid (joinRes_yes xs)
  have HLE := Lib.hid (flatTo_le xs)
  obtain ⟨R, hR⟩ : ∃ R, R = joinRes xs := ⟨_, rfl⟩
  rw [← hR] at HNO HLONG HYES ⊢
  clear hR
  have HZ := Lib.hid (Box.new w 32 #[.int .i64 0, .slice none 0 0])
  have HK := Lib.hid ((Keeps.refl w).alloc (.cells #[.int .i64 0, .slice none 0 0] 32))
  go_enter Try.func49, Try.ntmps49
  go_wp2_with fail
  go_loopw [4, 14] (fun nv i wr => ∃ k : Nat, k ≤ xs.length ∧ i = .int .i64 k ∧ nv = .int .i64 (min (flatTo xs k).length 4097 : Nat) ∧ Hid (∀ j (hj : j < xs.length), j < k → chk xs[j].n xs[j].l = true) ∧ Hid (Box wr w.heap.size 32 #[.int .i64 0, .slice none 0 0]) ∧ Hid (Keeps w wr)) (fun _ i _ => xs.length - (intOf i).toNat)
  case atStart => exact ⟨0, by omega, rfl, rfl, Lib.hid (fun j _ h => absurd h (by omega)), HZ, HK⟩
  case round =>
    clear HZ HK
    obtain ⟨k, hk, rfl, rfl, HC, HZ, HK⟩ := hrel
    by_cases hlt : k < xs.length
    · obtain ⟨b, off, rfl, hcell⟩ := HX.out.addr (by omega)
      obtain ⟨hc0, hc1⟩ := hcell k hlt
      replace hc0 := HK.out.later hc0
      replace hc1 := HK.out.later hc1
      have HI := Lib.hid ((HX.out.isIn _ (List.getElem_mem hlt)).keeps HK.out)
      have HS := Lib.hid (flatTo_succ xs k hlt)
      have HC2 := Lib.hid (HNO.out k hlt)
      have HC3 : Hid (chk xs[k].n xs[k].l = true → ∀ j (hj : j < xs.length), j < k + 1 → chk xs[j].n xs[j].l = true) := Lib.hid (by
        intro h j hj hjk
        by_cases hjk' : j = k
        · subst hjk'; exact h
        · exact HC.out j hj (by omega))
      clear hcell HC
      obtain ⟨x, hx⟩ : ∃ x, x = xs[k] := ⟨_, rfl⟩
      rw [← hx] at hc0 hc1 HI HS HC2 HC3
      clear hx
      have hbl := bits_len x
      obtain ⟨nn, aa, ll, cc, bl⟩ := x
      simp only at hc0 hc1 hbl
      obtain ⟨L, hL⟩ : ∃ L, L = (flatTo xs k).length := ⟨_, rfl⟩
      have HL1 : Hid ((flatTo xs (k + 1)).length = L + nn.toNat) := Lib.hid (by rw [HS.out, List.length_append, hbl, hL])
      rw [← hL]
      clear hL HS hbl
      have z0 := HZ.out.cell 0 _ rfl
      have z1 := HZ.out.cell 1 _ rfl
      have zf := HZ.out.frozen
      have zl := HZ.out.lt
      cases hch : chk nn bl
      all_goals
        have HCH := Lib.hid hch
        clear hch
        go_wp2_with fail
      · with_reducible refine (check_no ⟨nn, aa, ll, cc, bl⟩ _ (by exact HI.out.keeps ((Keeps.refl _).alloc _)) HCH.out).mono ?_
        rintro e w2 ⟨rfl, hk2⟩
        replace HZ := Lib.hid ((HZ.out.next _).keeps hk2)
        replace HK := Lib.hid (HK.out.trans hk2.unbox)
        clear hk2 z0 z1 zf zl hc0 hc1
        have z0 := HZ.out.cell 0 _ rfl
        have z1 := HZ.out.cell 1 _ rfl
        have zf := HZ.out.frozen
        have zl := HZ.out.lt
        go_wp2_with fail
        refine bodyPost_ret (v := .tuple #[RB.zero.val, .int .i64 10]) (by simp [results, Try.results49, go_sem, RB.val, RB.zero, *]) rfl (Res.no2 (HC2.out HCH.out) ⟨rfl, ?_⟩)
        repeat (with_reducible refine Keeps.setCell ?_ (by simp <;> omega) _)
        exact HK.out
      · with_reducible refine (check_yes ⟨nn, aa, ll, cc, bl⟩ _ (by exact HI.out.keeps ((Keeps.refl _).alloc _)) HCH.out).mono ?_
        rintro e w2 ⟨rfl, hk2⟩
        have hb0 := hk2.box 0 _ rfl
        have hb1 := hk2.box 1 _ rfl
        have hz2 := hk2.box_lt
        have his := HI.out.is HCH.out
        have hn0 := his.n
        have hn1 := his.most
        simp only at hn0 hn1
        have hnn : 0 ≤ nn ∧ nn ≤ 4096 := by omega
        replace HZ := Lib.hid ((HZ.out.next _).keeps hk2)
        replace HK := Lib.hid (HK.out.trans hk2.unbox)
        clear hk2 z0 z1 zf zl hc0 hc1 his hn0 hn1 HI
        have hmin : (if (4097 : Int) < ((min L 4097 : Nat) : Int) + nn then (4097 : Int) else ((min L 4097 : Nat) : Int) + nn) = ((min (L + nn.toNat) 4097 : Nat) : Int) := by split <;> omega
        obtain ⟨m0, hm0⟩ : ∃ m0, m0 = min L 4097 := ⟨_, rfl⟩
        rw [← hm0] at hmin ⊢
        have hm1 : m0 ≤ 4097 := by omega
        obtain ⟨m2, hm2⟩ : ∃ m2, m2 = min (L + nn.toNat) 4097 := ⟨_, rfl⟩
        rw [← hm2] at hmin
        have HM2 := Lib.hid hm2
        clear hm0 hm2
        go_wp2_with fail
        all_goals
          go_roundw
        all_goals
          first
            | exact ⟨k + 1, by omega, by go_num, by rw [HL1.out, ← HM2.out], HC3.out HCH.out, HZ, HK⟩
            | (simp [intOf]; omega)
    · obtain rfl : k = xs.length := by omega
      have HCA : Hid (∀ j (hj : j < xs.length), chk xs[j].n xs[j].l = true) := Lib.hid (fun j hj => HC.out j hj hj)
      clear HC hlt
      obtain ⟨T, hT⟩ : ∃ T, T = (flatTo xs xs.length).length := ⟨_, rfl⟩
      have HTT := Lib.hid hT
      rw [← hT]
      rw [← hT] at HLONG HYES
      clear hT
      have z0 := HZ.out.cell 0 _ rfl
      have z1 := HZ.out.cell 1 _ rfl
      have zf := HZ.out.frozen
      have zl := HZ.out.lt
      by_cases hlong : 4096 < T
      · have hm : min T 4097 = 4097 := by omega
        rw [hm]
        have HRR := Lib.hid (HLONG.out HCA.out hlong)
        clear hm
        go_wp2_with fail
        refine bodyPost_ret (v := .tuple #[RB.zero.val, .int .i64 3]) (by simp [results, Try.results49, go_sem, RB.val, RB.zero, *]) rfl (Res.no2 HRR.out ⟨rfl, ?_⟩)
        repeat (with_reducible refine Keeps.setCell ?_ (by simp <;> omega) _)
        exact HK.out
      have hm : min T 4097 = T := by omega
      rw [hm]
      clear hm HLONG HNO
      have HRR := Lib.hid (HYES.out HCA.out (by omega))
      clear HYES
      have dT : decide ((4096 : Int) < (T : Int)) = false := by simp; omega
      go_wp2_with fail
      (with_reducible refine (blank_any _ T _ rfl (by omega)).mono ?_)
      rintro e w2 ⟨g, rfl, hblk, hg, hk2⟩
      have e0 : (List.replicate ((T + 7) / 8) 0) = pack (flatTo xs 0 ++ List.replicate (T - (flatTo xs 0).length) false) := by rw [flatTo_zero, List.nil_append, List.length_nil, Nat.sub_zero, pack_blank]
      rw [e0] at hblk
      have hws := HK.out.size
      replace HZ := Lib.hid (HZ.out.keeps hk2)
      replace HK := Lib.hid (HK.out.trans hk2)
      have HG := Lib.hid hblk
      have hgl := hblk.lt
      have hgw : w.heap.size ≤ g := by omega
      have hzg : w.heap.size ≠ g := by omega
      clear hblk e0 hk2 hg hws z0 z1 zf zl
      go_wp2_with fail
      obtain ⟨B, hB⟩ : ∃ B, B = w2.heap.size := ⟨_, rfl⟩
      have HCB := Lib.hid (Box.new w2 32 #[.int .i64 T, .slice (some ⟨g, 0, none⟩) ((T + 7) / 8) ((T + 7) / 8)])
      rw [← hB] at HCB ⊢
      have hBg : B ≠ g := by omega
      have hBw : B ≠ w.heap.size := by have := HZ.out.lt; omega
      have hBw2 : w.heap.size < B := by have := HZ.out.lt; omega
      replace HG := Lib.hid (HG.out.next (.cells #[.int .i64 T, .slice (some ⟨g, 0, none⟩) ((T + 7) / 8) ((T + 7) / 8)] 32))
      replace HZ := Lib.hid (HZ.out.next (.cells #[.int .i64 T, .slice (some ⟨g, 0, none⟩) ((T + 7) / 8) ((T + 7) / 8)] 32))
      replace HK := Lib.hid (HK.out.alloc (.cells #[.int .i64 T, .slice (some ⟨g, 0, none⟩) ((T + 7) / 8) ((T + 7) / 8)] 32))
      clear hB hgl
      go_loopw [9, 37] (fun av i wr => ∃ k : Nat, k ≤ xs.length ∧ i = .int .i64 k ∧ av = .int .i64 ((flatTo xs k).length : Nat) ∧ Hid (Blk wr .u8 5 g (pack (flatTo xs k ++ List.replicate (T - (flatTo xs k).length) false))) ∧ Hid (Box wr B 32 #[.int .i64 T, .slice (some ⟨g, 0, none⟩) ((T + 7) / 8) ((T + 7) / 8)]) ∧ Hid (Box wr w.heap.size 32 #[.int .i64 0, .slice none 0 0]) ∧ Hid (Keeps w wr)) (fun _ i _ => xs.length - (intOf i).toNat)
      case atStart => exact ⟨0, by omega, rfl, rfl, HG, HCB, HZ, HK⟩
      case round =>
        clear HG HCB HZ HK
        obtain ⟨k, hk, rfl, rfl, HG, HCB, HZ, HK⟩ := hrel
        have c0 := HCB.out.cell 0 _ rfl
        have c1 := HCB.out.cell 1 _ rfl
        have cl := HCB.out.lt
        by_cases hlt : k < xs.length
        · obtain ⟨b, off, rfl, hcell⟩ := HX.out.addr (by omega)
          obtain ⟨hc0, hc1⟩ := hcell k hlt
          replace hc0 := HK.out.later hc0
          replace hc1 := HK.out.later hc1
          have his := (HX.out.isIn _ (List.getElem_mem hlt)).is (HCA.out k hlt)
          have HBE := Lib.hid his.below
          have hn0 := his.n
          have hn1 := his.most
          have HI : Hid (xs[k].Is wr xs[k].bits) := Lib.hid (his.keeps HK.out)
          have hle := HLE.out (k + 1) xs.length hlt
          rw [← HTT.out] at hle
          have HS := Lib.hid (flatTo_succ xs k hlt)
          have hbb : unpack xs[k].n.toNat xs[k].l = xs[k].bits := rfl
          rw [hbb] at HBE hn0 hn1
          rw [HS.out, List.length_append] at hle
          clear hcell his hbb
          obtain ⟨x, hx⟩ : ∃ x, x = xs[k] := ⟨_, rfl⟩
          rw [← hx] at hc0 hc1 HI HBE HS hn0 hn1 hle
          clear hx
          obtain ⟨bs, hbs⟩ : ∃ bs, bs = x.bits := ⟨_, rfl⟩
          rw [← hbs] at HI HBE HS hn0 hn1 hle
          clear hbs
          obtain ⟨nn, aa, ll, cc, bl⟩ := x
          simp only at hc0 hc1 hn0 HBE
          subst hn0
          obtain ⟨fk, hfk⟩ : ∃ fk, fk = flatTo xs k := ⟨_, rfl⟩
          rw [← hfk] at HG HS hle ⊢
          clear hfk
          have hl1 : fk.length + bs.length ≤ T := hle
          have HNX : Hid (pack (fk ++ (part bs 0 bs.length ++ List.replicate (T - fk.length - (bs.length - 0)) false)) = pack (flatTo xs (k + 1) ++ List.replicate (T - (flatTo xs (k + 1)).length) false)) := Lib.hid (by
            rw [HS.out, part_all, List.length_append, Nat.sub_zero, Nat.sub_sub, List.append_assoc])
          have HLN : Hid ((flatTo xs (k + 1)).length = fk.length + bs.length) := Lib.hid (by rw [HS.out, List.length_append])
          clear HS hle
          have hgl0 := HG.out.lt
          go_wp2_with fail
          have HI2 := Lib.hid (HI.out.keeps ((Keeps.refl wr).alloc (.cells #[.int .i64 bs.length, .slice aa ll cc] 32)))
          have HBB := Lib.hid (Box.new wr 32 #[.int .i64 bs.length, .slice aa ll cc])
          replace HG := Lib.hid (HG.out.next (.cells #[.int .i64 bs.length, .slice aa ll cc] 32))
          replace HCB := Lib.hid (HCB.out.next (.cells #[.int .i64 bs.length, .slice aa ll cc] 32))
          replace HZ := Lib.hid (HZ.out.next (.cells #[.int .i64 bs.length, .slice aa ll cc] 32))
          replace HK := Lib.hid (HK.out.alloc (.cells #[.int .i64 bs.length, .slice aa ll cc] 32))
          have hgl := HG.out.lt
          clear c0 c1 hc0 hc1
          (with_reducible refine (into_any (T : Int) g ((T + 7) / 8) ((T + 7) / 8) fk (T - fk.length) fk.length 0 bs.length 0 bs.length ⟨(bs.length : Int), aa, ll, cc, bl⟩ bs _ (by exact HG.out) (by rw [show fk.length + (T - fk.length) + 7 = T + 7 by omega]) (Nat.le_refl _) (by omega) (by omega) rfl (by simp) rfl (by exact HI2.out) (by intro h0 a' ha'; have := HBE.out h0 a' ha'; omega) (Nat.zero_le _) (Nat.le_refl _) (by omega)).mono ?_)
          rintro e w3 ⟨rfl, hb3, hkb⟩
          rw [HNX.out] at hb3
          have hwr : w.heap.size < wr.heap.size := by omega
          have hgwr : wr.heap.size ≠ g := by omega
          replace HBB := Lib.hid (HBB.out.keepsBut hkb hgwr)
          replace HCB := Lib.hid (HCB.out.keepsBut hkb hBg)
          replace HZ := Lib.hid (HZ.out.keepsBut hkb hzg)
          replace HK := Lib.hid (KeepsBut.keeps HK.out hkb hgw)
          replace HG := Lib.hid hb3
          clear hb3 hkb HNX HI HI2 HBE
          have b0 := HBB.out.cell 0 _ rfl
          have b1 := HBB.out.cell 1 _ rfl
          have bl1 := HBB.out.lt
          go_wp2_with fail
          go_roundw
          case rel => exact ⟨k + 1, by omega, by go_num, by rw [HLN.out]; go_num, HG, HCB, HZ, HK⟩
          case measure => simp [intOf]; omega
        · obtain rfl : k = xs.length := by omega
          have z0 := HZ.out.cell 0 _ rfl
          have z1 := HZ.out.cell 1 _ rfl
          have zf := HZ.out.frozen
          have zl := HZ.out.lt
          have HGF : Hid (Blk wr .u8 5 g (pack (flatTo xs xs.length))) := Lib.hid (by
            have h := HG.out
            rw [← HTT.out, Nat.sub_self, List.replicate_zero, List.append_nil] at h
            exact h)
          go_wp2_with fail
          refine bodyPost_ret (v := .tuple #[.agg #[.int .i64 T, .slice (some ⟨g, 0, none⟩) ((T + 7) / 8) ((T + 7) / 8)], .int .i64 0]) (by simp [results, Try.results49, go_sem, *]) rfl ?_
          rw [HRR.out]
          refine ⟨⟨T, some ⟨g, 0, none⟩, (T + 7) / 8, (T + 7) / 8, pack (flatTo xs xs.length)⟩, rfl, ?_, fun a ha => by cases ha; exact hgw, ?_⟩
          · exact ((HGF.out.keepsBut (KeepsBut.setCell _ _ _ _) (by omega)).keepsBut (KeepsBut.setCell _ _ _ _) (by omega)).is2 _ _ _ (by rw [HTT.out]) (by rw [← HTT.out]; omega) (by rw [HTT.out]) (Nat.le_refl _) (by omega)
          · exact (HK.out.setCell (by simp) _).setCell (by simp) _
end Go.Proofs.Ytkbdpdcandpfdaa
