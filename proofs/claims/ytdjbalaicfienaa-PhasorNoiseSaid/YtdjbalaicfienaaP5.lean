/- The walks of layer 3, 4: Turn on both sides. -/
import Derived.Test.YtdjbalaicfienaaP4
namespace Go.Proofs.Ytdjbalaicfienaa
open Go.RowKit
set_option linter.unusedVariables false
set_option linter.unusedSimpArgs false
def SRes (w w' : World) (e : Ending) (r : List Smp × Int) : Prop := ∃ v, e = .returned (.tuple #[v, .int .i64 r.2]) ∧ OwnP w' w.heap.size v r.1 ∧ Keeps w w'
theorem SRes.no {w w' : World} {e : Ending} {c : Int} {r : List Smp × Int} (hr : r = ([], c)) (h : e = .returned (.tuple #[.slice none 0 0, .int .i64 c]) ∧ Keeps w w') : SRes w w' e r := by
  subst hr
  exact ⟨_, h.1, OwnP.nil _ _, h.2⟩
def turnsTo (xs : List Smp) (k j : Nat) : List Smp := (xs.take j).map fun s => turnS s k
theorem turnsTo_len (xs : List Smp) (k j : Nat) (h : j ≤ xs.length) : (turnsTo xs k j).length = j := by simp [turnsTo, h]
theorem turnsTo_succ (xs : List Smp) (k j : Nat) (h : j < xs.length) : turnsTo xs k (j + 1) = turnsTo xs k j ++ [turnS xs[j] k] := by
  unfold turnsTo
  rw [List.take_succ_eq_append_getElem h, List.map_append]
  rfl
def turnRes (xs : List Smp) (q : Int) : List Smp × Int := cond (allB xs) (xs.map fun s => turnS s (qOf q), 0) ([], 31)
theorem turnsTo_all (xs : List Smp) (k : Nat) : turnsTo xs k xs.length = xs.map fun s => turnS s k := by simp [turnsTo]
theorem mayB_abs {s : Smp} (h : mayB s = true) : s.i.natAbs ≤ 262144 ∧ s.q.natAbs ≤ 262144 := by
  have := (mayB_iff s).1 h
  omega
theorem turnS_abs {s : Smp} {A : Nat} (h : s.i.natAbs ≤ A ∧ s.q.natAbs ≤ A) (k : Nat) : (turnS s k).i.natAbs ≤ A ∧ (turnS s k).q.natAbs ≤ A := by
  match k with
  | 0 => exact h
  | 1 => simp only [turnS]; omega
  | 2 => simp only [turnS]; omega
  | k + 3 => simp only [turnS]; omega
theorem unitOf_abs (k : Nat) : (unitOf k).1.natAbs ≤ 1 ∧ (unitOf k).2.natAbs ≤ 1 := by
  match k with
  | 0 => decide
  | 1 => decide
  | 2 => decide
  | k + 3 => exact ⟨by simp [unitOf], by simp [unitOf]⟩
set_option maxRecDepth 100000 in
set_option maxHeartbeats 2000000 in
theorem turn_any (a : Option Addr) (n cap : Nat) (xs : List Smp) (q : Int) (w : World) (hx : SRow w a n cap xs) (hn : n ≤ 100000) (h1 : -9223372036854775808 ≤ q) (h2 : q ≤ 9223372036854775807) :
    Calls Try.prog 46 #[.slice a n cap, .int .i64 q] w fun e w' => SRes w w' e (turnRes xs q) := by
  have HX := Lib.hid hx
  have hlen := hx.len
  have hcap := hx.hcap
  have hmax := hx.hmax
  subst hlen
  clear hx
  cases hall : allB xs
  · have HR : Hid (turnRes xs q = ([], 31)) := Lib.hid (by unfold turnRes; rw [hall]; rfl)
    go_enter Try.func46, Try.ntmps46
    go_wp2_with fail
    with_reducible refine (all_samples a xs.length cap xs _ (by exact HX.out)).mono ?_
    rw [hall]
    rintro e w1 ⟨rfl, hk1⟩
    clear hall
    go_wp2_with fail
    refine bodyPost_ret (v := .tuple #[.slice none 0 0, .int .i64 31]) (by simp [results, Try.results46, go_sem, *]) rfl (SRes.no HR.out ⟨rfl, hk1⟩)
  have HALL := Lib.hid (fun k hk => allB_get hall k hk)
  have HR : Hid (turnRes xs q = (turnsTo xs (qOf q) xs.length, 0)) := Lib.hid (by unfold turnRes; rw [hall, turnsTo_all]; rfl)
  obtain ⟨R, hR⟩ : ∃ R, R = turnRes xs q := ⟨_, rfl⟩
  rw [← hR] at HR ⊢
  clear hR
  go_enter Try.func46, Try.ntmps46
  go_wp2_with fail
  with_reducible refine (all_samples a xs.length cap xs _ (by exact HX.out)).mono ?_
  rw [hall]
  rintro e w1 ⟨rfl, hk1⟩
  clear hall
  have HK := Lib.hid hk1
  clear hk1
  go_wp2_with fail
  with_reducible refine (unit_any q _ h1 h2).mono ?_
  rintro e w2 ⟨ua, ub, rfl, fa, fb, rfl⟩
  have HUA := Lib.hid fa
  have HUB := Lib.hid fb
  obtain ⟨Q, hQ⟩ : ∃ Q, Q = qOf q := ⟨_, rfl⟩
  rw [← hQ] at HUA HUB HR
  clear fa fb hQ
  go_wp2_with fail
  go_loopw [7, 17] (fun v i wr => ∃ k : Nat, k ≤ xs.length ∧ i = .int .i64 k ∧ Hid (OwnP wr w.heap.size v (turnsTo xs Q k)) ∧ Hid (Keeps w wr)) (fun _ i _ => xs.length - (intOf i).toNat)
  case atStart => exact ⟨0, by omega, rfl, OwnP.nil _ _, HK⟩
  case round =>
    clear HK
    obtain ⟨k, hk, rfl, HO, HK⟩ := hrel
    have hsz := HK.out.size
    by_cases hlt : k < xs.length
    · obtain ⟨b, off, rfl, hbl, hcell⟩ := HX.out.addr (by omega)
      obtain ⟨hc0, hc1⟩ := hcell k hlt
      replace hc0 := HK.out.later hc0
      replace hc1 := HK.out.later hc1
      have hma := mayB_abs (HALL.out k hlt)
      have HS := Lib.hid (turnsTo_succ xs Q k hlt)
      have hln := turnsTo_len xs Q k hk
      clear hcell
      obtain ⟨x, hx⟩ : ∃ x, x = xs[k] := ⟨_, rfl⟩
      rw [← hx] at hc0 hc1 hma HS
      clear hx
      obtain ⟨si, sq⟩ := x
      simp only at hc0 hc1 hma
      go_wp2_with fail
      with_reducible refine (number_any ⟨si, sq⟩ _ (by simp only; omega) (by simp only; omega)).mono ?_
      rintro e w3 ⟨na, nb, rfl, ga, gb, hk3⟩
      obtain ⟨re, im, k1, k2, e1⟩ := cmul_int ga gb HUA.out HUB.out 262144 1 hma.1 hma.2 (unitOf_abs Q).1 (unitOf_abs Q).2 (by decide)
      have e2 := e1 Try.prog 95
      have hts := turnS_unit ⟨si, sq⟩ Q
      have hta := turnS_abs (s := ⟨si, sq⟩) hma Q
      simp only at hts k1 k2
      rw [← hts.1] at k1
      rw [← hts.2] at k2
      have K1 := Lib.hid k1
      have K2 := Lib.hid k2
      have HO3 := Lib.hid ((HO.out.keeps ((Keeps.refl wr).alloc (.cells #[.int .i64 si, .int .i64 sq] 63))).keeps hk3)
      have HK3 : Hid (Keeps w w3) := Lib.hid (HK.out.trans hk3.unbox)
      obtain ⟨S, hS⟩ : ∃ S, S = turnS ⟨si, sq⟩ Q := ⟨_, rfl⟩
      rw [← hS] at K1 K2 hta HS
      clear k1 k2 hts e1 ga gb hk3 hc0 hc1 HO HK hS hma
      go_wp2_with fail
      with_reducible refine (sample_any re im S _ K1.out K2.out (by omega) (by omega)).mono ?_
      rintro e w4 ⟨rfl, hk4⟩
      have HO4 := Lib.hid (HO3.out.keeps hk4)
      have HK4 := Lib.hid (HK3.out.trans hk4)
      have hsz4 := HK4.out.size
      clear hk4 HO3 HK3 K1 K2 e2
      obtain ⟨ti, tq⟩ := S
      go_wp2_with (refine wpList_joinP rfl _ _ rfl w.heap.size _ _ rfl (by exact HO4.out.keeps ((Keeps.refl _).alloc _)) _ 1 1 [⟨ti, tq⟩] rfl (by exact Box.smp (s := ⟨ti, tq⟩) (Box.new _ _ _)) (by rw [hln]; omega) (by simp; omega) ?hmain)
      case hmain =>
        intro v' w5 hown hg
        rw [← HS.out] at hown
        have HO5 := Lib.hid hown
        have HK5 : Hid (Keeps w w5) := Lib.hid (hg.keeps (HK4.out.alloc _) (fun k hk => (HO4.out.lt k hk).1))
        clear hown hg HO4 HK4 HS
        go_wp2_with fail
        go_roundw
        case rel => exact ⟨k + 1, by omega, by go_num, HO5, HK5⟩
        case measure => simp [intOf]; omega
    · obtain rfl : k = xs.length := by omega
      go_wp2_with fail
      refine bodyPost_ret (v := .tuple #[u7, .int .i64 0]) (by simp [results, Try.results46, go_sem, *]) rfl ?_
      rw [HR.out]
      exact ⟨_, rfl, HO.out, HK.out⟩
set_option maxRecDepth 100000 in
set_option maxHeartbeats 2000000 in
theorem rturn_any (a : Option Addr) (n cap : Nat) (xs : List Smp) (q : Int) (w : World) (hx : SRow w a n cap xs) (hn : n ≤ 100000) (h1 : -9223372036854775808 ≤ q) (h2 : q ≤ 9223372036854775807) :
    Calls Try.prog 49 #[.slice a n cap, .int .i64 q] w fun e w' => SRes w w' e (turnRes xs q) := by
  have HX := Lib.hid hx
  have hlen := hx.len
  have hcap := hx.hcap
  have hmax := hx.hmax
  subst hlen
  clear hx
  cases hall : allB xs
  · have HR : Hid (turnRes xs q = ([], 31)) := Lib.hid (by unfold turnRes; rw [hall]; rfl)
    go_enter Try.func49, Try.ntmps49
    go_wp2_with fail
    with_reducible refine (mays_any a xs.length cap xs _ (by exact HX.out)).mono ?_
    rw [hall]
    rintro e w1 ⟨rfl, hk1⟩
    clear hall
    go_wp2_with fail
    refine bodyPost_ret (v := .tuple #[.slice none 0 0, .int .i64 31]) (by simp [results, Try.results49, go_sem, *]) rfl (SRes.no HR.out ⟨rfl, hk1⟩)
  have HALL := Lib.hid (fun k hk => allB_get hall k hk)
  have HR : Hid (turnRes xs q = (turnsTo xs (qOf q) xs.length, 0)) := Lib.hid (by unfold turnRes; rw [hall, turnsTo_all]; rfl)
  obtain ⟨R, hR⟩ : ∃ R, R = turnRes xs q := ⟨_, rfl⟩
  rw [← hR] at HR ⊢
  clear hR
  go_enter Try.func49, Try.ntmps49
  go_wp2_with fail
  with_reducible refine (mays_any a xs.length cap xs _ (by exact HX.out)).mono ?_
  rw [hall]
  rintro e w1 ⟨rfl, hk1⟩
  clear hall
  have HK := Lib.hid hk1
  clear hk1
  obtain ⟨Q, hQ⟩ : ∃ Q, Q = qOf q := ⟨_, rfl⟩
  rw [← hQ] at HR
  have HQ := Lib.hid hQ
  clear hQ
  go_wp2_with fail
  go_loopw [6, 7] (fun v i wr => ∃ k : Nat, k ≤ xs.length ∧ i = .int .i64 k ∧ Hid (OwnP wr w.heap.size v (turnsTo xs Q k)) ∧ Hid (Keeps w wr)) (fun _ i _ => xs.length - (intOf i).toNat)
  case atStart => exact ⟨0, by omega, rfl, OwnP.nil _ _, HK⟩
  case round =>
    clear HK
    obtain ⟨k, hk, rfl, HO, HK⟩ := hrel
    have hsz := HK.out.size
    by_cases hlt : k < xs.length
    · obtain ⟨b, off, rfl, hbl, hcell⟩ := HX.out.addr (by omega)
      obtain ⟨hc0, hc1⟩ := hcell k hlt
      replace hc0 := HK.out.later hc0
      replace hc1 := HK.out.later hc1
      have hma := mayB_abs (HALL.out k hlt)
      have HS := Lib.hid (turnsTo_succ xs Q k hlt)
      have hln := turnsTo_len xs Q k hk
      clear hcell
      obtain ⟨x, hx⟩ : ∃ x, x = xs[k] := ⟨_, rfl⟩
      rw [← hx] at hc0 hc1 hma HS
      clear hx
      obtain ⟨si, sq⟩ := x
      simp only at hc0 hc1 hma
      go_wp2_with fail
      with_reducible refine (turned_any ⟨si, sq⟩ q _ (by simp only; omega) (by simp only; omega)).mono ?_
      rw [← HQ.out]
      obtain ⟨S, hS⟩ : ∃ S, S = turnS ⟨si, sq⟩ Q := ⟨_, rfl⟩
      rw [← hS] at HS ⊢
      rintro e w4 ⟨rfl, hk4⟩
      have HO4 := Lib.hid (HO.out.keeps hk4)
      have HK4 : Hid (Keeps w w4) := Lib.hid (HK.out.trans hk4)
      have hsz4 := HK4.out.size
      clear hk4 HO HK hc0 hc1 hma hS
      obtain ⟨ti, tq⟩ := S
      go_wp2_with (refine wpList_joinP rfl _ _ rfl w.heap.size _ _ rfl (by exact HO4.out.keeps ((Keeps.refl _).alloc _)) _ 1 1 [⟨ti, tq⟩] rfl (by exact Box.smp (s := ⟨ti, tq⟩) (Box.new _ _ _)) (by rw [hln]; omega) (by simp; omega) ?hmain)
      case hmain =>
        intro v' w5 hown hg
        rw [← HS.out] at hown
        have HO5 := Lib.hid hown
        have HK5 : Hid (Keeps w w5) := Lib.hid (hg.keeps (HK4.out.alloc _) (fun k hk => (HO4.out.lt k hk).1))
        clear hown hg HO4 HK4 HS
        go_wp2_with fail
        go_roundw
        case rel => exact ⟨k + 1, by omega, by go_num, HO5, HK5⟩
        case measure => simp [intOf]; omega
    · obtain rfl : k = xs.length := by omega
      go_wp2_with fail
      refine bodyPost_ret (v := .tuple #[u6, .int .i64 0]) (by simp [results, Try.results49, go_sem, *]) rfl ?_
      rw [HR.out]
      exact ⟨_, rfl, HO.out, HK.out⟩
end Go.Proofs.Ytdjbalaicfienaa
