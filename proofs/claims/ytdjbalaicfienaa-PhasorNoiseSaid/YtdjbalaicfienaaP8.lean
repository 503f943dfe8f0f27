/- The walks of layer 3, 7: the reference's Encode. -/
import Derived.Test.YtdjbalaicfienaaP7
namespace Go.Proofs.Ytdjbalaicfienaa
open Go.RowKit
set_option linter.unusedVariables false
set_option linter.unusedSimpArgs false
theorem rput_zero12 (n : Nat) (w : World) (h : n ≤ 4095) : Calls Try.prog 63 #[.agg #[.int .i64 0, .slice none 0 0], .int .u64 n, .int .i64 12] w fun e w' => Res w w' e (numBits n 12, 0) := by
  have h1 := rput_any RB.zero n 12 w (RB.zero_is w).isIn (by omega)
  rw [putRes_is (RB.zero_is w), if_pos (by simp only [putArg, Bool.and_eq_true, decide_eq_true_eq]; exact ⟨by decide, by decide, by show n < 2 ^ 12; omega⟩)] at h1
  have e : ofRes ([] ++ numBits n (12 : Int).toNat) = (numBits n 12, 0) := by
    unfold ofRes
    rw [List.nil_append, if_pos (by rw [numBits_len]; decide)]
    rfl
  rw [e] at h1
  exact h1
theorem encTo_succ (amp : Int) (k : Nat) (h : k < preS.length) : encTo amp (k + 1) = encTo amp k ++ [scaleS amp preS[k]] := by
  unfold encTo
  rw [List.take_succ_eq_append_getElem h, List.map_append]
  rfl
theorem preS_abs (k : Nat) (h : k < preS.length) : preS[k].i.natAbs ≤ 1 ∧ preS[k].q.natAbs ≤ 1 := by
  have h8 : k < 8 := h
  match k, h8 with
  | 0, _ => exact ⟨Nat.le_refl 1, Nat.le_refl 1⟩
  | 1, _ => exact ⟨Nat.le_refl 1, Nat.le_refl 1⟩
  | 2, _ => exact ⟨Nat.le_refl 1, Nat.le_refl 1⟩
  | 3, _ => exact ⟨Nat.le_refl 1, Nat.le_refl 1⟩
  | 4, _ => exact ⟨Nat.le_refl 1, Nat.le_refl 1⟩
  | 5, _ => exact ⟨Nat.le_refl 1, Nat.le_refl 1⟩
  | 6, _ => exact ⟨Nat.le_refl 1, Nat.le_refl 1⟩
  | 7, _ => exact ⟨Nat.le_refl 1, Nat.le_refl 1⟩
/-- a row of the call's own, of other cells -/
theorem Own.gr {w w' : World} {base base' t : Nat} {u v v' : Value} {xs : List Value} {ys : List Smp} (h : Own w base t u xs) (hg : Gr w w' v v') (hv : OwnP w base' v ys) (ht : t ≠ 63) : Own w' base t u xs := by
  refine h.block fun k hk => hg.block k (h.lt k hk).2 fun e => ?_
  rcases h.2 with ⟨hn, -⟩ | ⟨g, cap, cur, rfl, hbg, hg', rest⟩
  · rw [hn] at hk; cases hk
  · simp only [Value.ownBlock, Option.some.injEq] at hk
    subst hk
    exact hv.notBox (X := g) (t := t) (c := cur) (by exact hg') ht e
theorem OwnP.row {w : World} {base : Nat} {a : Option Addr} {n cap : Nat} {xs : List Smp} (h : OwnP w base (.slice a n cap) xs) : SRow w a n cap xs := by
  obtain ⟨a', cap', he, hr, -⟩ := h.shape
  simp only [Value.slice.injEq] at he
  obtain ⟨rfl, rfl, rfl⟩ := he
  exact hr
theorem OwnP.gr2 {w w' : World} {base : Nat} {u v v' : Value} {xs : List Smp} (h : OwnP w base u xs) (hg : Gr w w' v v') (hlt : ∀ k, v.ownBlock = some k → k < base) : OwnP w' base u xs :=
  h.block fun k hk => hg.block k (h.lt k hk).2 fun e => by have := hlt k e; have := (h.lt k hk).1; omega
set_option maxRecDepth 100000 in
set_option maxHeartbeats 4000000 in
theorem rencode_bad (x : RB) (amp : Int) (w : World) (hx : x.In w) (hc : chk x.n x.l = false) : Calls Try.prog 38 #[x.val, .int .i64 amp] w fun e w' => SRes w w' e (encRes x amp) := by
  have HR := Lib.hid (encRes_no x amp hc)
  have HX := Lib.hid hx
  have HC := Lib.hid hc
  obtain ⟨n, a, len, cap, l⟩ := x
  clear hx hc
  show Calls Try.prog 38 #[.agg #[.int .i64 n, .slice a len cap], .int .i64 amp] w _
  all_goals
    go_enter Try.func38, Try.ntmps38
    go_wp2_with fail
    with_reducible refine (rcheck_no ⟨n, a, len, cap, l⟩ _ (by exact HX.out.keeps ((Keeps.refl w).alloc _)) HC.out).mono ?_
    rintro e w1 ⟨rfl, hk1⟩
    go_wp2_with fail
    refine bodyPost_ret (v := .tuple #[.slice none 0 0, .int .i64 10]) (by simp [results, Try.results38, go_sem, *]) rfl (SRes.no HR.out ⟨rfl, hk1.unbox⟩)
set_option maxRecDepth 100000 in
set_option maxHeartbeats 4000000 in
theorem rencode_amp (x : RB) (amp : Int) (w : World) (hx : x.In w) (hc : chk x.n x.l = true) (h2 : ¬ (1 ≤ amp ∧ amp ≤ 65536)) : Calls Try.prog 38 #[x.val, .int .i64 amp] w fun e w' => SRes w w' e (encRes x amp) := by
  have HR := Lib.hid (encRes_amp x amp hc h2)
  have HX := Lib.hid hx
  have HC := Lib.hid hc
  obtain ⟨n, a, len, cap, l⟩ := x
  clear hx hc
  show Calls Try.prog 38 #[.agg #[.int .i64 n, .slice a len cap], .int .i64 amp] w _
  have hd : decide (amp < 1) = true ∨ (decide (amp < 1) = false ∧ decide (65536 < amp) = true) := by
    by_cases h : amp < 1
    · left; simpa using h
    · right; exact ⟨by simpa using h, by simp; omega⟩
  clear h2
  rcases hd with d1 | ⟨d1, d2⟩
  all_goals
    go_enter Try.func38, Try.ntmps38
    go_wp2_with fail
    with_reducible refine (rcheck_yes ⟨n, a, len, cap, l⟩ _ (by exact HX.out.keeps ((Keeps.refl w).alloc _)) HC.out).mono ?_
    rintro e w1 ⟨rfl, hk1⟩
    go_wp2_with fail
    refine bodyPost_ret (v := .tuple #[.slice none 0 0, .int .i64 30]) (by simp [results, Try.results38, go_sem, *]) rfl (SRes.no HR.out ⟨rfl, hk1.unbox⟩)
set_option maxRecDepth 100000 in
set_option maxHeartbeats 4000000 in
theorem rencode_long (x : RB) (amp : Int) (w : World) (hx : x.In w) (hc : chk x.n x.l = true) (h2 : 1 ≤ amp ∧ amp ≤ 65536) (h3 : ¬ x.n ≤ 4095) : Calls Try.prog 38 #[x.val, .int .i64 amp] w fun e w' => SRes w w' e (encRes x amp) := by
  have HR := Lib.hid (encRes_long x amp hc h2 h3)
  have HX := Lib.hid hx
  have HC := Lib.hid hc
  obtain ⟨n, a, len, cap, l⟩ := x
  clear hx hc
  show Calls Try.prog 38 #[.agg #[.int .i64 n, .slice a len cap], .int .i64 amp] w _
  simp only at h3
  have d1 : decide (amp < 1) = false := by simp; omega
  have d2 : decide (65536 < amp) = false := by simp; omega
  have d3 : decide (4095 < n) = true := by simp; omega
  clear h2 h3
  all_goals
    go_enter Try.func38, Try.ntmps38
    go_wp2_with fail
    with_reducible refine (rcheck_yes ⟨n, a, len, cap, l⟩ _ (by exact HX.out.keeps ((Keeps.refl w).alloc _)) HC.out).mono ?_
    rintro e w1 ⟨rfl, hk1⟩
    have hb := (Box.new w 26 #[.int .i64 n, .slice a len cap]).keeps hk1
    have b0 := hb.cell 0 _ rfl
    go_wp2_with fail
    refine bodyPost_ret (v := .tuple #[.slice none 0 0, .int .i64 3]) (by simp [results, Try.results38, go_sem, *]) rfl (SRes.no HR.out ⟨rfl, hk1.unbox⟩)
set_option maxRecDepth 100000 in
set_option maxHeartbeats 16000000 in
theorem rencode_ok (x : RB) (bs : List Bool) (amp : Int) (w : World) (hx : x.Is w bs) (h2 : 1 ≤ amp ∧ amp ≤ 65536) (h3 : bs.length ≤ 4095) : Calls Try.prog 38 #[x.val, .int .i64 amp] w fun e w' => SRes w w' e (encS bs amp, 0) := by
  have HX := Lib.hid hx
  have HC := Lib.hid hx.chk
  obtain ⟨a, cap, rfl⟩ := hx.shape
  clear hx
  obtain ⟨n, hn⟩ : ∃ n, n = bs.length := ⟨_, rfl⟩
  have HN := Lib.hid hn
  rw [← hn] at HX HC h3 ⊢
  clear hn
  show Calls Try.prog 38 #[.agg #[.int .i64 n, .slice a ((n + 7) / 8) cap], .int .i64 amp] w _
  have d1 : decide (amp < 1) = false := by simp; omega
  have d2 : decide (65536 < amp) = false := by simp; omega
  have d3 : decide (4095 < (n : Int)) = false := by simp; omega
  have ham : amp.natAbs ≤ 65536 := by omega
  clear h2
  have hwn : IntKind.u64.wrap (n : Int) = n := by simp [IntKind.wrap, IntKind.bits, IntKind.signed]; omega
  go_enter Try.func38, Try.ntmps38
  go_wp2_with fail
  with_reducible refine (rcheck_yes ⟨n, a, (n + 7) / 8, cap, pack bs⟩ _ (by exact HX.out.isIn.keeps ((Keeps.refl w).alloc _)) HC.out).mono ?_
  rintro e w1 ⟨rfl, hk1⟩
  have HB := Lib.hid ((Box.new w 26 #[.int .i64 n, .slice a ((n + 7) / 8) cap]).keeps hk1)
  have HK := Lib.hid hk1.unbox
  clear hk1
  have b0 := HB.out.cell 0 _ rfl
  have b1 := HB.out.cell 1 _ rfl
  have bl := HB.out.lt
  go_wp2_with fail
  with_reducible refine (rpreamble_any _).mono ?_
  rintro e w3 ⟨pa, rfl, hpr, hk3⟩
  have HPR := Lib.hid hpr
  replace HB := Lib.hid (HB.out.keeps hk3)
  replace HK := Lib.hid (HK.out.trans hk3)
  have hB0 := HK.out.size
  obtain ⟨B, hB⟩ : ∃ B, B = w3.heap.size := ⟨_, rfl⟩
  have hwB : w.heap.size < B := by have := HB.out.lt; omega
  have HPB : Hid (∀ x, pa = some x → x.block < B) := Lib.hid (fun x hx => by
    obtain ⟨b, o, h1, h2, -⟩ := HPR.out.addr (by decide)
    rw [hx] at h1
    cases h1
    rw [hB]; exact h2)
  have hB3 : B ≤ w3.heap.size := by omega
  clear hk3 b0 b1 bl hpr hB hB0
  go_wp2_with fail
  go_loopw [6, 8] (fun v i wr => ∃ k : Nat, k ≤ 8 ∧ i = .int .i64 k ∧ Hid (OwnP wr B v (encTo amp k)) ∧ Hid (Box wr w.heap.size 26 #[.int .i64 n, .slice a ((n + 7) / 8) cap]) ∧ Hid (SRow wr pa 8 8 preS) ∧ B ≤ wr.heap.size ∧ Hid (Keeps w wr)) (fun _ i _ => 8 - (intOf i).toNat)
  case atStart => exact ⟨0, by omega, rfl, OwnP.nil _ _, HB, HPR, hB3, HK⟩
  case round =>
    clear HK HB HPR hB3
    obtain ⟨k, hk, rfl, HO, HB, HPR, hB3, HK⟩ := hrel
    by_cases hlt : k < 8
    · obtain ⟨b, off, rfl, hbl, hcell⟩ := HPR.out.addr (by decide)
      obtain ⟨hc0, hc1⟩ := hcell k hlt
      have hpa := preS_abs k hlt
      have HS := Lib.hid (encTo_succ amp k hlt)
      have hbB := HPB.out _ rfl
      clear hcell
      obtain ⟨x, hx⟩ : ∃ x, x = preS[k]'hlt := ⟨_, rfl⟩
      rw [← hx] at hc0 hc1 hpa HS
      clear hx
      obtain ⟨pi, pq⟩ := x
      simp only at hc0 hc1 hpa hbB
      have c0 : ∀ q : Later wr, q.w.cell? ⟨b, off + k * 2, none⟩ = some (.int .i64 pi) := fun q => q.keeps.later hc0
      have c1 : ∀ q : Later wr, q.w.cell? ⟨b, off + k * 2 + 1, none⟩ = some (.int .i64 pq) := fun q => q.keeps.later hc1
      have hw1 : IntKind.i64.wrap (amp * pi) = amp * pi := wrap_small (by have := natAbs_mul_le ham hpa.1; omega)
      have hw2 : IntKind.i64.wrap (amp * pq) = amp * pq := wrap_small (by have := natAbs_mul_le ham hpa.2; omega)
      have hln : (encTo amp k).length = k := by unfold encTo; rw [List.length_map, List.length_take]; show min k 8 = k; omega
      have dk : decide ((k : Int) < 8) = true := by simp; omega
      clear hc0 hc1
      go_wp2_with fail
      refine wp_region_move_tail (fun w' => ∃ q : Later wr, w' = q.w) 16 u6 (by kernel_rfl) (by kernel_rfl) ⟨⟨wr.drew, (Keeps.refl wr).drew⟩, rfl⟩ (fun _ _ _ h => h) (Or.inl ⟨by rfl, fun w => by rfl⟩) ?_
      dsimp only [List.take, List.drop]
      simp only [Act.put, List.setIfInBounds_toArray, List.set_cons_zero, List.set_cons_succ]
      repeat (go_big_quiet_step (fail))
      refine wpQuiet_nil ?_
      rintro _ ⟨q, rfl⟩
      obtain ⟨wq, hwq⟩ := q
      simp only
      replace HO := Lib.hid ((HO.out.keeps hwq).keeps ((Keeps.refl wq).alloc (.cells #[.int .i64 (amp * pi), .int .i64 (amp * pq)] 63)))
      replace HB := Lib.hid ((HB.out.keeps hwq).next (.cells #[.int .i64 (amp * pi), .int .i64 (amp * pq)] 63))
      replace HPR := Lib.hid ((HPR.out.keeps hwq).keeps ((Keeps.refl wq).alloc (.cells #[.int .i64 (amp * pi), .int .i64 (amp * pq)] 63)))
      replace HK := Lib.hid ((HK.out.trans hwq).alloc (.cells #[.int .i64 (amp * pi), .int .i64 (amp * pq)] 63))
      have hB4 : B ≤ wq.heap.size := Nat.le_trans hB3 hwq.size
      clear c0 c1 hwq hB3
      go_wp2_with (refine wpList_joinP rfl _ _ rfl B _ _ rfl (by exact HO.out) _ 1 1 [⟨amp * pi, amp * pq⟩] rfl (by exact Box.smp (s := ⟨amp * pi, amp * pq⟩) (Box.new _ _ _)) (by rw [hln]; omega) (by simp; omega) ?hmain)
      case hmain =>
        intro v' w5 hown hg
        have hown2 : OwnP w5 B v' (encTo amp (k + 1)) := by rw [HS.out]; exact hown
        have HO5 := Lib.hid hown2
        have HB5 := Lib.hid (HB.out.gr hg (HO.out.notBox HB.out (by decide)))
        have HP5 := Lib.hid (HPR.out.gr hg (fun _ x hx e => by cases hx; have := (HO.out.lt _ e).1; simp only at this; omega))
        have HK5 : Hid (Keeps w w5) := Lib.hid (hg.keeps HK.out (fun k hk => by have := (HO.out.lt k hk).1; omega))
        have hB5 : B ≤ w5.heap.size := by have := hg.size; simp at this; omega
        clear hown hown2 hg HO HB HPR HK HS hw1 hw2
        go_wp2_with fail
        go_roundw
        case rel => exact ⟨k + 1, by omega, by go_num, HO5, HB5, HP5, hB5, HK5⟩
        case measure => simp [intOf]; omega
    · obtain rfl : k = 8 := by omega
      have b0 := HB.out.cell 0 _ rfl
      have b1 := HB.out.cell 1 _ rfl
      have bl := HB.out.lt
      have dk : decide (((8 : Nat) : Int) < 8) = false := by decide
      clear HPR HPB hlt
      go_wp2_with fail
      with_reducible refine (rput_zero12 n _ h3).mono ?_
      rintro e w4 ⟨y, rfl, hy, hf, hk4⟩
      obtain ⟨yn, ya, ylen, ycap, yl⟩ := y
      have HY := Lib.hid (hy.keeps ((Keeps.refl w4).alloc (.cells #[.int .i64 yn, .slice ya ylen ycap] 26)))
      have HNB := Lib.hid (Box.new w4 26 #[.int .i64 yn, .slice ya ylen ycap])
      replace HO := Lib.hid ((HO.out.keeps hk4).keeps ((Keeps.refl w4).alloc (.cells #[.int .i64 yn, .slice ya ylen ycap] 26)))
      replace HB := Lib.hid ((HB.out.keeps hk4).next (.cells #[.int .i64 yn, .slice ya ylen ycap] 26))
      replace HK := Lib.hid ((HK.out.trans hk4).alloc (.cells #[.int .i64 yn, .slice ya ylen ycap] 26))
      have hB4 : B ≤ (w4.alloc (.cells #[.int .i64 yn, .slice ya ylen ycap] 26)).heap.size := by have := hk4.size; simp; omega
      clear hy hf hk4 b0 b1 bl hB3
      go_upto_region 14 with fail
      obtain ⟨W, hW⟩ : ∃ W, W = w4.alloc (.cells #[.int .i64 yn, .slice ya ylen ycap] 26) := ⟨_, rfl⟩
      rw [← hW] at HY HNB HO HB HK hB4 ⊢
      obtain ⟨N, hN⟩ : ∃ N, N = w4.heap.size := ⟨_, rfl⟩
      rw [← hN] at HNB ⊢
      clear hW hN
      have HNL := Lib.hid (show (numBits n 12).length = 12 from numBits_len _ _)
      obtain ⟨nb, hnb⟩ : ∃ nb, nb = numBits n 12 := ⟨_, rfl⟩
      have HNN0 := Lib.hid hnb
      rw [← hnb] at HY HNL
      clear hnb
      have HX0 := HX
      have HON := Lib.hid (HO.out.keeps (Keeps.refl W).drew)
      have HBN := Lib.hid (HB.out.keeps (Keeps.refl W).drew)
      have HNN := Lib.hid (HNB.out.keeps (Keeps.refl W).drew)
      have HYN := Lib.hid (HY.out.keeps (Keeps.refl W).drew)
      have HKN := Lib.hid (HK.out.drew)
      have HXN := Lib.hid (HX.out.keeps HKN.out)
      have hBd : B ≤ W.drew.heap.size := hB4
      have h8 : (encTo amp 8).length = 8 := rfl
      have HAE : Hid (encTo amp 8 ++ pairsTo nb amp ((nb.length + 1) / 2) ++ pairsTo bs amp ((bs.length + 1) / 2) = encS bs amp) := Lib.hid (by
        unfold encS
        rw [HNL.out, HNN0.out, HN.out, List.append_assoc])
      clear HO HB HNB HY HK HX hB4 dk hk
      have HBS := Lib.hid hBd
      have hbl4 : bs.length ≤ 5000 := by have := HN.out; omega
      clear hBd
      go_region_held3 (fun w' => w'.cell? ⟨w.heap.size, 0, none⟩ = some (.int .i64 n) ∧ w'.cell? ⟨w.heap.size, 1, none⟩ = some (.slice a ((n + 7) / 8) cap) ∧ w'.cell? ⟨N, 0, none⟩ = some (.int .i64 yn) ∧ w'.cell? ⟨N, 1, none⟩ = some (.slice ya ylen ycap))
        ((exact ⟨HBN.out.cell 0 _ rfl, HBN.out.cell 1 _ rfl, HNN.out.cell 0 _ rfl, HNN.out.cell 1 _ rfl⟩))
        (first
          | (refine step_joinP rfl (.tmp 56) (.tmp 60) rfl B u6 (encTo amp 8) rfl HON.out pa1 _ pcap1 (pairsTo nb amp ((nb.length + 1) / 2)) rfl HP1.out (by rw [h8, pairsTo_len, HNL.out]; decide) HBS.out ?_; intro v1 w5 hown hg; replace HBN := Lib.hid (HBN.out.gr hg (HON.out.notBox HBN.out (by decide))); replace HNN := Lib.hid (HNN.out.gr hg (HON.out.notBox HNN.out (by decide))); replace HXN := Lib.hid (HXN.out.gr hg (fun h0 x hx e => by have h1 := (HON.out.lt _ e).1; have h2 := HX0.out.isIn.row; obtain ⟨b', o', h3, -, h4⟩ := h2.addr h0; rw [h3] at hx; cases hx; simp only at h1; omega)); (try replace HL2 := Lib.hid (HL2.out.gr hg HON.out (by decide))); (try replace HP2 := Lib.hid (HP2.out.gr2 hg HB2.out)); replace HKN : Hid (Keeps w _) := Lib.hid (hg.keeps HKN.out (fun k hk => Nat.le_trans (Nat.le_of_lt hwB) (HON.out.lt k hk).1)); replace HBS := Lib.hid (Nat.le_trans HBS.out hg.size); replace HON := Lib.hid hown; clear hown hg HP1 HL1)
          | (refine step_joinP rfl (.tmp 61) (.tmp 65) rfl B v1 (encTo amp 8 ++ pairsTo nb amp ((nb.length + 1) / 2)) rfl HON.out pa2 _ pcap2 (pairsTo bs amp ((bs.length + 1) / 2)) rfl HP2.out.row (by rw [List.length_append, h8, pairsTo_len, pairsTo_len, HNL.out]; omega) HBS.out ?_; intro v2 w6 hown hg; clear HP2 HL2; replace HBN := Lib.hid (HBN.out.gr hg (HON.out.notBox HBN.out (by decide))); replace HNN := Lib.hid (HNN.out.gr hg (HON.out.notBox HNN.out (by decide))); replace HXN := Lib.hid (HXN.out.gr hg (fun h0 x hx e => by have h1 := (HON.out.lt _ e).1; have h2 := HX0.out.isIn.row; obtain ⟨b', o', h3, -, h4⟩ := h2.addr h0; rw [h3] at hx; cases hx; simp only at h1; omega)); (try replace HL2 := Lib.hid (HL2.out.gr hg HON.out (by decide))); (try replace HP2 := Lib.hid (HP2.out.gr2 hg HB2.out)); replace HKN : Hid (Keeps w _) := Lib.hid (hg.keeps HKN.out (fun k hk => Nat.le_trans (Nat.le_of_lt hwB) (HON.out.lt k hk).1)); replace HBS := Lib.hid (Nat.le_trans HBS.out hg.size); replace HON := Lib.hid hown; clear hown hg)
          | (go_at_call 76; with_reducible refine (rlist_ok ⟨yn, ya, ylen, ycap, yl⟩ nb _ HYN.out).mono ?_; rintro e x1 ⟨lv1, rfl, hown1, hk⟩; obtain ⟨la1, lcap1, rfl, -, -, -⟩ := hown1.bools.shape; have HL1 := Lib.hid hown1; (try replace HBN := Lib.hid (HBN.out.keeps hk)); (try replace HNN := Lib.hid (HNN.out.keeps hk)); (try replace HYN := Lib.hid (HYN.out.keeps hk)); (try replace HXN := Lib.hid (HXN.out.keeps hk)); (try replace HON := Lib.hid (HON.out.keeps hk)); (try replace HL1 := Lib.hid (HL1.out.keeps hk)); (try replace HP1 := Lib.hid (HP1.out.keeps hk)); (try replace HL2 := Lib.hid (HL2.out.keeps hk)); (try replace HP2 := Lib.hid (HP2.out.keeps hk)); replace HKN := Lib.hid (HKN.out.trans hk); replace HBS := Lib.hid (Nat.le_trans HBS.out hk.size); clear hown1 hk)
          | (go_at_call 76; with_reducible refine (rlist_ok ⟨n, a, (n + 7) / 8, cap, pack bs⟩ bs _ HXN.out).mono ?_; rintro e x2 ⟨lv2, rfl, hown2, hk⟩; obtain ⟨la2, lcap2, rfl, -, -, -⟩ := hown2.bools.shape; have HL2 := Lib.hid hown2; (try replace HBN := Lib.hid (HBN.out.keeps hk)); (try replace HNN := Lib.hid (HNN.out.keeps hk)); (try replace HYN := Lib.hid (HYN.out.keeps hk)); (try replace HXN := Lib.hid (HXN.out.keeps hk)); (try replace HON := Lib.hid (HON.out.keeps hk)); (try replace HL1 := Lib.hid (HL1.out.keeps hk)); (try replace HP1 := Lib.hid (HP1.out.keeps hk)); (try replace HL2 := Lib.hid (HL2.out.keeps hk)); (try replace HP2 := Lib.hid (HP2.out.keeps hk)); replace HKN := Lib.hid (HKN.out.trans hk); replace HBS := Lib.hid (Nat.le_trans HBS.out hk.size); clear hown2 hk)
          | (go_at_call 75; with_reducible refine (rpairs_any la1 lcap1 nb amp _ HL1.out.bools ham (by rw [HNL.out]; decide)).mono ?_; rintro e x3 ⟨pv1, rfl, hp1, hk⟩; obtain ⟨pa1, pcap1, rfl, hpr1, -⟩ := hp1.shape; have HP1 := Lib.hid hpr1; (try replace HBN := Lib.hid (HBN.out.keeps hk)); (try replace HNN := Lib.hid (HNN.out.keeps hk)); (try replace HYN := Lib.hid (HYN.out.keeps hk)); (try replace HXN := Lib.hid (HXN.out.keeps hk)); (try replace HON := Lib.hid (HON.out.keeps hk)); (try replace HL1 := Lib.hid (HL1.out.keeps hk)); (try replace HP1 := Lib.hid (HP1.out.keeps hk)); (try replace HL2 := Lib.hid (HL2.out.keeps hk)); (try replace HP2 := Lib.hid (HP2.out.keeps hk)); replace HKN := Lib.hid (HKN.out.trans hk); replace HBS := Lib.hid (Nat.le_trans HBS.out hk.size); clear hp1 hpr1 hk)
          | (go_at_call 75; with_reducible refine (rpairs_any la2 lcap2 bs amp _ HL2.out.bools ham hbl4).mono ?_; rintro e x4 ⟨pv2, rfl, hp2, hk⟩; obtain ⟨pa2, pcap2, rfl, -, -⟩ := hp2.shape; have HP2 := Lib.hid hp2; have HB2 := Lib.hid (fun k hk => (HON.out.lt k hk).2); (try replace HBN := Lib.hid (HBN.out.keeps hk)); (try replace HNN := Lib.hid (HNN.out.keeps hk)); (try replace HYN := Lib.hid (HYN.out.keeps hk)); (try replace HXN := Lib.hid (HXN.out.keeps hk)); (try replace HON := Lib.hid (HON.out.keeps hk)); (try replace HL1 := Lib.hid (HL1.out.keeps hk)); (try replace HP1 := Lib.hid (HP1.out.keeps hk)); (try replace HL2 := Lib.hid (HL2.out.keeps hk)); (try replace HP2 := Lib.hid (HP2.out.keeps hk)); replace HKN := Lib.hid (HKN.out.trans hk); replace HBS := Lib.hid (Nat.le_trans HBS.out hk.size); clear hp2 hk))
      all_goals
        go_wp2_with fail
        refine bodyPost_ret (v := .tuple #[v2, .int .i64 0]) (by simp [results, Try.results38, go_sem, *]) rfl ⟨v2, rfl, ?_, HKN.out⟩
        rw [← HAE.out]
        exact HON.out.mono (Nat.le_of_lt hwB)
theorem rencode_any (x : RB) (amp : Int) (w : World) (hx : x.In w) : Calls Try.prog 38 #[x.val, .int .i64 amp] w fun e w' => SRes w w' e (encRes x amp) := by
  cases hc : chk x.n x.l
  · exact rencode_bad x amp w hx hc
  by_cases h2 : 1 ≤ amp ∧ amp ≤ 65536
  · by_cases h3 : x.n ≤ 4095
    · rw [encRes_yes x amp hc h2 h3]
      have his : x.Is w x.bits := hx.is hc
      have hn := his.n
      exact rencode_ok x x.bits amp w his h2 (by omega)
    · exact rencode_long x amp w hx hc h2 h3
  · exact rencode_amp x amp w hx hc h2
end Go.Proofs.Ytdjbalaicfienaa
