/- The walk of PhasorNoise. -/
import Derived.Test.YtdjbalaicfienaaP9
import Derived.Test.YtdjbalaicfienaaP28
import Derived.Test.YtdjbalaicfienaaW16
import Derived.Test.YtdjbalaicfienaaP32
namespace Go.Proofs.Ytdjbalaicfienaa
open Go.RowKit
set_option linter.unusedVariables false
set_option linter.unusedSimpArgs false
theorem enc_fails' (x : RB) (amp : Int) (h : ¬ (chk x.n x.l = true ∧ (1 ≤ amp ∧ amp ≤ 65536) ∧ x.n ≤ 4095)) : ∃ E, encRes x amp = ([], E) ∧ E ≠ 0 := by
  cases hc : chk x.n x.l
  · exact ⟨10, encRes_no x amp hc, by decide⟩
  by_cases h2 : 1 ≤ amp ∧ amp ≤ 65536
  · exact ⟨3, encRes_long x amp hc h2 (fun h3 => h ⟨hc, h2, h3⟩), by decide⟩
  · exact ⟨30, encRes_amp x amp hc h2, by decide⟩
theorem SRs.two' {w : World} {b : Nat} {a a2 : Option Addr} {n cap n2 cap2 : Nat} {xs ys : List Smp} (hx : SRow w a n cap xs) (hy : SRow w a2 n2 cap2 ys) (hb : Box w b 52 #[.slice a n cap, .slice a2 n2 cap2]) : SRs w (some ⟨b, 0, none⟩) 2 2 [⟨a, cap, xs⟩, ⟨a2, cap2, ys⟩] := by
  have hl := hx.len
  have hl2 := hy.len
  subst hl hl2
  refine ⟨rfl, Nat.le_refl _, by decide, fun x h => ?_, fun i hi => ?_⟩
  · simp only [List.mem_cons, List.not_mem_nil, or_false] at h
    rcases h with rfl | rfl
    · exact hx
    · exact hy
  · have : i = 0 ∨ i = 1 := by simp only [List.length_cons, List.length_nil] at hi; omega
    rcases this with rfl | rfl
    · exact ⟨b, 0, rfl, hb.cell 0 _ rfl⟩
    · exact ⟨b, 0, rfl, hb.cell 1 _ rfl⟩
set_option maxRecDepth 100000 in
set_option maxHeartbeats 8000000 in
theorem phasorNoise_any (x : RB) (amp : Int) (na : Option Addr) (nn nc : Nat) (l : List Nat) (w : World) (hx : x.In w) (hn : U16s w na nn nc l) :
    Calls Try.prog 12 #[x.val, .int .i64 amp, .slice na nn nc] w fun e w' => e = .returned (.bool true) ∧ Keeps w w' := by
  have HX := Lib.hid hx
  clear hx
  obtain ⟨n1, n2, hnb, hnr⟩ := hn
  have HNR := Lib.hid hnr
  have hnl := hnr.1
  subst hnl
  by_cases hok : chk x.n x.l = true ∧ (1 ≤ amp ∧ amp ≤ 65536) ∧ x.n ≤ 4095
  case neg =>
    obtain ⟨E, hE, hE0⟩ := enc_fails' x amp hok
    have HR := Lib.hid hE
    have d0 : decide (E = 0) = false := decide_eq_false hE0
    clear hE hok
    obtain ⟨xn, a, len, cap, xl⟩ := x
    show Calls Try.prog 12 #[.agg #[.int .i64 xn, .slice a len cap], .int .i64 amp, .slice na l.length nc] w _
    have HK := Lib.hid ((Keeps.refl w).alloc (.cells #[.int .i64 xn, .slice a len cap] 26))
    go_enter Try.func12, Try.ntmps12
    go_wp2_with fail
    with_reducible refine (encode_any ⟨xn, a, len, cap, xl⟩ amp _ (by exact HX.out.keeps HK.out)).mono ?_
    rw [HR.out]
    rintro e w1 ⟨v1, rfl, ho1, hk1⟩
    replace HK := Lib.hid (HK.out.trans hk1)
    clear ho1 hk1
    go_wp2_with fail
    with_reducible refine (begun3_any _).mono ?_
    rintro e w3 ⟨rfl, hk3⟩
    replace HK := Lib.hid (HK.out.trans hk3)
    clear hk3
    go_wp2_with fail
    with_reducible refine (begun3_any _).mono ?_
    rintro e w4 ⟨rfl, hk4⟩
    go_wp2_with fail
    go_ret
    exact ⟨rfl, HK.out.trans hk4⟩
  obtain ⟨hc, ⟨hamp1, hamp2⟩, hn4⟩ := hok
  have hR := encRes_yes x amp hc ⟨hamp1, hamp2⟩ hn4
  have hIs := HX.out.is hc
  obtain ⟨bs, hbs⟩ : ∃ bs, bs = x.bits := ⟨_, rfl⟩
  rw [← hbs] at hR
  have hI2 : x.Is w bs := by rw [hbs]; exact hIs
  clear hbs hIs
  have hbl : bs.length ≤ 4095 := by have := hI2.n; omega
  have HR := Lib.hid hR
  have HI := Lib.hid hI2
  obtain ⟨m, hm⟩ : ∃ m, amp.tdiv 8 = m := ⟨_, rfl⟩
  have hmd : amp / 8 = m := by rw [← hm, Int.tdiv_eq_ediv_of_nonneg (by omega)]
  have hm0 : 0 ≤ m := by omega
  have hm8 : 8 * m ≤ amp := by omega
  have hm9 : m ≤ 8192 := by omega
  have hel := encS_len bs amp
  obtain ⟨L, hL⟩ : ∃ L, (encS bs amp).length = L := ⟨_, rfl⟩
  have hL2 : L ≤ 3000 := by omega
  have HNB := Lib.hid hnb
  have hin := nzTo_in m l L hm0 hnb
  have HA := Lib.hid (noise_rec bs (nzTo m l L) amp m hamp1 hamp2 hm0 hm8 hin hbl)
  have HAD := fun (a b : Option Addr) (c d : Nat) => addRes_two a b c d (encS bs amp) (nzTo m l L) (by rw [nzTo_len, hL]) (allB_enc bs amp hamp1 hamp2) (allB_inM _ m (by omega) hin) (allB_noisy bs _ amp m hamp1 hamp2 hm0 hm8 hin)
  have hyl : (noisy (encS bs amp) (nzTo m l L)).length = L := by rw [noisy_len, hL]
  have HYL := Lib.hid hyl
  have HLE := Lib.hid hL
  rw [hL] at hel
  obtain ⟨a, cap, rfl⟩ := hI2.shape
  clear hc hn4 hR hI2 hin hnr hnb hyl hL hel
  show Calls Try.prog 12 #[.agg #[.int .i64 bs.length, .slice a ((bs.length + 7) / 8) cap], .int .i64 amp, .slice na l.length nc] w _
  have HB := Lib.hid (Box.new w 26 #[.int .i64 bs.length, .slice a ((bs.length + 7) / 8) cap])
  have HK := Lib.hid ((Keeps.refl w).alloc (.cells #[.int .i64 bs.length, .slice a ((bs.length + 7) / 8) cap] 26))
  go_enter Try.func12, Try.ntmps12
  go_wp2_with fail
  with_reducible refine (encode_any ⟨bs.length, a, (bs.length + 7) / 8, cap, pack bs⟩ amp _ (by exact HX.out.keeps HK.out)).mono ?_
  rw [HR.out]
  rintro e w1 ⟨v1, rfl, ho1, hk1⟩
  obtain ⟨a1, c1, rfl, hr1, -⟩ := ho1.shape
  simp only [HLE.out] at hr1 ⊢
  have HR1 := Lib.hid hr1
  replace HB := Lib.hid (HB.out.keeps hk1)
  replace HK := Lib.hid (HK.out.trans hk1)
  clear ho1 hr1 hk1
  go_wp2_with fail
  with_reducible refine (begun3_any _).mono ?_
  rintro e w3 ⟨rfl, hk3⟩
  replace HR1 := Lib.hid (HR1.out.keeps hk3)
  replace HB := Lib.hid (HB.out.keeps hk3)
  replace HK := Lib.hid (HK.out.trans hk3)
  clear hk3
  have hszw := HB.out.lt
  go_wp2_with fail
  go_loopw [10, 33] (fun v i wr => ∃ k : Nat, k ≤ L ∧ i = .int .i64 k ∧ Hid (OwnP wr w3.heap.size v (nzTo m l k)) ∧ Hid (Keeps w3 wr)) (fun _ i _ => L - (intOf i).toNat)
  case atStart => exact ⟨0, by omega, rfl, Lib.hid (OwnP.nil _ _), Lib.hid (Keeps.refl _)⟩
  case round =>
    obtain ⟨k, hk, rfl, HO, HK3⟩ := hrel
    have hsz := HK3.out.size
    by_cases hlt : k < L
    · have hln := nzTo_len m l k
      by_cases h0 : 0 < l.length
      · obtain ⟨b, off, rfl, hcell, hbl2⟩ := HNR.out.addr h0
        have hmod : k % l.length < l.length := Nat.mod_lt _ h0
        have hc := HK3.out.later (HK.out.later (hcell (k % l.length) hmod))
        have HZB : Hid (l.getD (k % l.length) 0 < 65536) := Lib.hid (by
          rw [List.getD_eq_getElem?_getD, List.getElem?_eq_getElem hmod]
          exact HNB.out _ (List.getElem_mem _))
        obtain ⟨z, hz⟩ : ∃ z, l.getD (k % l.length) 0 = z := ⟨_, rfl⟩
        have HZE := Lib.hid hz
        rw [hz] at hc HZB
        have dL : decide ((0 : Int) < (l.length : Int)) = true := decide_eq_true (by omega)
        have t0 : ((k : Int)).tmod (l.length : Int) = ((k % l.length : Nat) : Int) := by rw [Int.tmod_eq_emod_of_nonneg (by omega)]; rfl
        clear hcell hz
        have hnz := nz_in m z hm0 HZB.out
        have hq1 := nz_one m ((z : Int) % 256) hm0 (by omega) (by omega)
        have hq2 := nz_one m ((z : Int) / 256) hm0 (by have := HZB.out; omega) (by have := HZB.out; omega)
        have HNS : Hid (nzTo m l (k + 1) = nzTo m l k ++ [⟨(z : Int) % 256 * (2 * m + 1) / 256 - m, (z : Int) / 256 * (2 * m + 1) / 256 - m⟩]) := Lib.hid (by rw [nzTo_succ, HZE.out]; rfl)
        have ww0 : wrap64 (z : Int) = (z : Int) := by have := HZB.out; simp [wrap64]; omega
        have ww1 : IntKind.i64.wrap ((z : Int) % 256 * (2 * m + 1)) = (z : Int) % 256 * (2 * m + 1) := wrap_small (by omega)
        have ww2 : IntKind.i64.wrap ((z : Int) / 256 * (2 * m + 1)) = (z : Int) / 256 * (2 * m + 1) := wrap_small (by omega)
        have ww3 : IntKind.i64.wrap ((z : Int) % 256 * (2 * m + 1) / 256 - m) = (z : Int) % 256 * (2 * m + 1) / 256 - m := wrap_small (by omega)
        have ww4 : IntKind.i64.wrap ((z : Int) / 256 * (2 * m + 1) / 256 - m) = (z : Int) / 256 * (2 * m + 1) / 256 - m := wrap_small (by omega)
        have ww7 : IntKind.i64.wrap ((z : Int) / 256) = (z : Int) / 256 := wrap_small (by have := HZB.out; omega)
        have ww8 : IntKind.i64.wrap ((z : Int) / 256 * (2 * m + 1) / 256) = (z : Int) / 256 * (2 * m + 1) / 256 := wrap_small (by omega)
        have ww9 : IntKind.i64.wrap ((z : Int) % 256 * (2 * m + 1) / 256) = (z : Int) % 256 * (2 * m + 1) / 256 := wrap_small (by omega)
        have ww5 : IntKind.i64.wrap (2 * m) = 2 * m := wrap_small (by omega)
        have ww6 : IntKind.i64.wrap (2 * m + 1) = 2 * m + 1 := wrap_small (by omega)
        have t1 : (z : Int).tmod 256 = (z : Int) % 256 := Int.tmod_eq_emod_of_nonneg (by omega)
        have t2 : (z : Int).tdiv 256 = (z : Int) / 256 := Int.tdiv_eq_ediv_of_nonneg (by omega)
        have t3 : ((z : Int) % 256 * (2 * m + 1)).tdiv 256 = (z : Int) % 256 * (2 * m + 1) / 256 := Int.tdiv_eq_ediv_of_nonneg hq1.1
        have t4 : ((z : Int) / 256 * (2 * m + 1)).tdiv 256 = (z : Int) / 256 * (2 * m + 1) / 256 := Int.tdiv_eq_ediv_of_nonneg hq2.1
        go_wp2_with (refine wpList_joinP rfl _ _ rfl w3.heap.size _ _ rfl (by exact HO.out.keeps ((Keeps.refl _).alloc _)) _ 1 1 [⟨(z : Int) % 256 * (2 * m + 1) / 256 - m, (z : Int) / 256 * (2 * m + 1) / 256 - m⟩] rfl (by exact Box.smp (s := ⟨(z : Int) % 256 * (2 * m + 1) / 256 - m, (z : Int) / 256 * (2 * m + 1) / 256 - m⟩) (Box.new _ _ _)) (by rw [hln]; omega) (by simp; omega) ?hmain)
        case hmain =>
          intro v' w5 hown hg
          rw [← HNS.out] at hown
          have HO5 := Lib.hid hown
          have HK5 : Hid (Keeps w3 w5) := Lib.hid (hg.keeps (HK3.out.alloc _) (fun k hk => (HO.out.lt k hk).1))
          clear hown hg HO HK3 HNS
          go_wp2_with fail
          go_roundw
          case rel => exact ⟨k + 1, by omega, by go_num, HO5, HK5⟩
          case measure => simp [intOf]; omega
      · have hl0 : l = [] := List.eq_nil_of_length_eq_zero (by omega)
        have HZB : Hid ((0 : Nat) < 65536) := Lib.hid (by decide)
        have dL : decide ((0 : Int) < (l.length : Int)) = false := decide_eq_false (by omega)
        have HNS : Hid (nzTo m l (k + 1) = nzTo m l k ++ [⟨-m, -m⟩]) := Lib.hid (by
          rw [nzTo_succ, hl0]
          have e : nzOf m 0 = ⟨-m, -m⟩ := by simp [nzOf]
          rw [← e]; rfl)
        have ww5 : IntKind.i64.wrap (2 * m) = 2 * m := wrap_small (by omega)
        have ww6 : IntKind.i64.wrap (2 * m + 1) = 2 * m + 1 := wrap_small (by omega)
        have ww7 : IntKind.i64.wrap (-m) = -m := wrap_small (by omega)
        clear hl0
        go_wp2_with (refine wpList_joinP rfl _ _ rfl w3.heap.size _ _ rfl (by exact HO.out.keeps ((Keeps.refl _).alloc _)) _ 1 1 [⟨-m, -m⟩] rfl (by exact Box.smp (s := ⟨-m, -m⟩) (Box.new _ _ _)) (by rw [hln]; omega) (by simp; omega) ?hmain)
        case hmain =>
          intro v' w5 hown hg
          rw [← HNS.out] at hown
          have HO5 := Lib.hid hown
          have HK5 : Hid (Keeps w3 w5) := Lib.hid (hg.keeps (HK3.out.alloc _) (fun k hk => (HO.out.lt k hk).1))
          clear hown hg HO HK3 HNS
          go_wp2_with fail
          go_roundw
          case rel => exact ⟨k + 1, by omega, by go_num, HO5, HK5⟩
          case measure => simp [intOf]; omega
    · obtain rfl : k = L := by omega
      obtain ⟨an, cn, rfl, hrn, -⟩ := HO.out.shape
      rw [nzTo_len] at hrn ⊢
      have HRN := Lib.hid (hrn.keeps (Keeps.refl _))
      replace HR1 := Lib.hid (HR1.out.keeps HK3.out)
      replace HB := Lib.hid (HB.out.keeps HK3.out)
      replace HK := Lib.hid (HK.out.trans HK3.out)
      clear hrn HO HK3 hsz hszw
      go_wp2_with fail
      have HBX := Lib.hid (Box.new wr 52 #[.slice a1 k c1, .slice an k cn])
      have hky := (Keeps.refl wr).alloc (.cells #[.slice a1 k c1, .slice an k cn] 52)
      have HSS := Lib.hid (SRs.two' (HR1.out.keeps hky) (HRN.out.keeps hky) HBX.out)
      replace HK := Lib.hid (HK.out.trans hky)
      replace HB := Lib.hid (HB.out.keeps hky)
      clear hky HBX HRN HR1
      with_reducible refine (add_any (some ⟨wr.heap.size, 0, none⟩) 2 2 [⟨a1, c1, encS bs amp⟩, ⟨an, cn, nzTo m l k⟩] _ (by exact HSS.out) (by simp) (by
        intro x hx
        simp only [List.mem_cons, List.not_mem_nil, or_false] at hx
        rcases hx with rfl | rfl
        · simp only [HLE.out]; omega
        · simp only [nzTo_len]; omega)).mono ?_
      rw [HAD]
      rintro e w6 ⟨v6, rfl, ho6, hk6⟩
      obtain ⟨a6, c6, rfl, hr6, -⟩ := ho6.shape
      simp only [HYL.out] at hr6 ⊢
      have HR6 := Lib.hid hr6
      replace HB := Lib.hid (HB.out.keeps hk6)
      replace HK := Lib.hid (HK.out.trans hk6)
      clear ho6 hr6 hk6 HSS
      go_wp2_with fail
      with_reducible refine (receive_any a6 k c6 _ _ (by exact HR6.out) (by omega)).mono ?_
      rw [HA.out]
      rintro e w8 ⟨y8, rfl, hy8, -, hk8⟩
      obtain ⟨a8, c8, rfl⟩ := hy8.shape
      simp only [RB.val]
      have HY8 := Lib.hid hy8
      replace HB := Lib.hid (HB.out.keeps hk8)
      replace HK := Lib.hid (HK.out.trans hk8)
      have HB8 := Lib.hid (Box.new w8 26 #[.int .i64 bs.length, .slice a8 ((bs.length + 7) / 8) c8])
      have ht8 := (Keeps.refl w8).alloc (.cells #[.int .i64 bs.length, .slice a8 ((bs.length + 7) / 8) c8] 26)
      replace HB := Lib.hid (HB.out.keeps ht8)
      replace HK := Lib.hid (HK.out.trans ht8)
      replace HY8 := Lib.hid (HY8.out.keeps ht8)
      clear hy8 hk8 ht8
      have b0 := HB.out.cell 0 _ rfl
      have b1 := HB.out.cell 1 _ rfl
      have e0 := HB8.out.cell 0 _ rfl
      have e1 := HB8.out.cell 1 _ rfl
      go_wp2_with fail
      with_reducible refine (same_is ⟨bs.length, a, (bs.length + 7) / 8, cap, pack bs⟩ ⟨bs.length, a8, (bs.length + 7) / 8, c8, pack bs⟩ bs bs _ (by exact HI.out.keeps HK.out) (by exact HY8.out)).mono ?_
      rintro e w9 ⟨rfl, hk9⟩
      rw [decide_eq_true rfl]
      go_wp2_with fail
      go_ret
      exact ⟨rfl, HK.out.trans hk9⟩
end Go.Proofs.Ytdjbalaicfienaa
