/- The walk of PhasorChanges. -/
import Derived.Test.YtdjbalaicfienaaP24
import Derived.Test.YtdjbalaicfienaaP25
import Derived.Test.YtdjbalaicfienaaP9
namespace Go.Proofs.Ytdjbalaicfienaa
open Go.RowKit
set_option linter.unusedVariables false
set_option linter.unusedSimpArgs false
theorem ownP_empty (w : World) : OwnP (w.alloc (.cells #[] 63)) w.heap.size (.slice (some ⟨w.heap.size, 0, none⟩) 0 0) [] :=
  ⟨rfl, .inr ⟨w.heap.size, 0, #[], rfl, Nat.le_refl _, heap_alloc_new w _, Nat.le_refl _, by decide, rfl, rfl⟩⟩
set_option maxRecDepth 100000 in
set_option maxHeartbeats 1000000 in
theorem cloneS_any (a : Option Addr) (n cap : Nat) (xs : List Smp) (w : World) (hx : SRow w a n cap xs) (hn : n ≤ 100000) :
    Calls Try.prog 48 #[.slice a n cap] w fun e w' => ∃ v, e = .returned v ∧ OwnP w' w.heap.size v xs ∧ Keeps w w' := by
  have HX := Lib.hid hx
  have hlen := hx.len
  subst hlen
  clear hx
  cases a with
  | none =>
    have hnx : xs = [] := by
      cases xs with
      | nil => rfl
      | cons x xs =>
        obtain ⟨b, off, hab, -⟩ := HX.out.cell 0 (by simp)
        cases hab
    subst hnx
    have hnil : ∀ w : World, (binOp .eql 52 (.slice none 0 cap) (.slice none 0 0)).run Try.prog w = .ok (.bool true) w := fun w => by kernel_rfl
    go_enter Try.func48, Try.ntmps48
    go_wp2_with fail
    go_ret
    exact ⟨_, rfl, OwnP.nil _ _, Keeps.refl w⟩
  | some y =>
    have hnil : ∀ w : World, (binOp .eql 52 (.slice (some y) xs.length cap) (.slice none 0 0)).run Try.prog w = .ok (.bool false) w := fun w => by kernel_rfl
    go_enter Try.func48, Try.ntmps48
    go_wp2_with (refine wpList_joinP rfl _ _ rfl w.heap.size _ [] rfl (by exact ownP_empty _) (some y) xs.length cap xs rfl (by exact HX.out.keeps ((Keeps.refl w).alloc _)) (by simp; omega) (by simp) ?hmain)
    case hmain =>
      intro v' w1 hown hg
      have HK : Hid (Keeps w w1) := Lib.hid (hg.keeps ((Keeps.refl w).alloc _) (fun k hk => by simp only [Value.ownBlock, Option.some.injEq] at hk; omega))
      have HO := Lib.hid hown
      clear hown hg
      go_wp2_with fail
      go_ret
      exact ⟨_, rfl, HO.out, HK.out⟩
set_option maxRecDepth 100000 in
set_option maxHeartbeats 4000000 in
theorem phasorChanges_any (a : Option Addr) (n cap : Nat) (xs : List Smp) (q : Int) (b : Option Addr) (m capb : Nat) (ls : List RS) (w : World) (hx : SRow w a n cap xs) (h1 : -9223372036854775808 ≤ q) (h2 : q ≤ 9223372036854775807) (hl : SRs w b m capb ls) :
    Calls Try.prog 9 #[.slice a n cap, .int .i64 q, .slice b m capb] w fun e w' => e = .returned (.bool true) ∧ Keeps w w' := by
  have HX := Lib.hid hx
  have HL := Lib.hid hl
  have hlen := hx.len
  have hfew := fewB_iff [⟨a, cap, xs⟩]
  have hfewl := fewB_iff ls
  clear hx hl
  go_enter Try.func9, Try.ntmps9
  go_wp2_with fail
  with_reducible refine (begun3_any _).mono ?_
  rintro e w1 ⟨rfl, hk1⟩
  have HK := Lib.hid hk1
  clear hk1
  go_wp2_with fail
  with_reducible refine (few_any (some ⟨w1.heap.size, 0, none⟩) 1 1 [⟨a, cap, xs⟩] _ (by exact SRs.one (HX.out.keeps (HK.out.alloc _)) (Box.new _ _ _))).mono ?_
  rintro e w2 ⟨rfl, rfl⟩
  cases hf : fewB [⟨a, cap, xs⟩]
  · clear hf hfew hfewl
    go_wp2_with fail
    with_reducible refine (begun3_any _).mono ?_
    rintro e w3 ⟨rfl, hk3⟩
    go_wp2_with fail
    go_ret
    exact ⟨rfl, (HK.out.alloc _).trans hk3⟩
  have hn5 : n ≤ 5000 := by
    have := (hfew hf).2 _ (List.mem_singleton.2 rfl)
    simp only at this
    omega
  replace HK := Lib.hid (HK.out.alloc (.cells #[.slice a n cap] 52))
  obtain ⟨W, hW⟩ : ∃ W, W = w1.alloc (.cells #[.slice a n cap] 52) := ⟨_, rfl⟩
  rw [← hW] at HK ⊢
  clear hf hfew hW
  go_wp2_with fail
  with_reducible refine (few_any b m capb ls _ (by exact HL.out.keeps HK.out)).mono ?_
  rintro e w3 ⟨rfl, rfl⟩
  cases hf : fewB ls
  · clear hf hfewl
    go_wp2_with fail
    with_reducible refine (begun3_any _).mono ?_
    rintro e w4 ⟨rfl, hk4⟩
    go_wp2_with fail
    go_ret
    exact ⟨rfl, HK.out.trans hk4⟩
  obtain ⟨hl50, hl5⟩ := hfewl hf
  have HL5 := Lib.hid (fun x (hx : x ∈ ls) => Nat.le_trans (hl5 x hx) (show 5000 ≤ 100000 by decide))
  clear hf hfewl hl5
  obtain ⟨⟨ts, E⟩, hT⟩ : ∃ M, M = turnRes xs q := ⟨_, rfl⟩
  have HT := Lib.hid hT
  obtain ⟨⟨ss, D⟩, hS⟩ : ∃ M, M = addRes ls := ⟨_, rfl⟩
  have HS := Lib.hid hS
  clear hT hS
  go_wp2_with fail
  with_reducible refine (cloneS_any a n cap xs _ (by exact HX.out.keeps HK.out) (by omega)).mono ?_
  rintro e w4 ⟨v4, rfl, ho4, hk4⟩
  replace HK := Lib.hid (HK.out.trans hk4)
  obtain ⟨a4, c4, rfl, hr4, -⟩ := ho4.shape
  have HR4 := Lib.hid hr4
  rw [hlen] at HR4 ⊢
  clear ho4 hk4 hr4
  go_wp2_with fail
  with_reducible refine (turn_any a n cap xs q _ (by exact HX.out.keeps HK.out) (by omega) h1 h2).mono ?_
  rw [← HT.out]
  rintro e w5 ⟨v5, rfl, ho5, hk5⟩
  replace HK := Lib.hid (HK.out.trans hk5)
  replace HR4 := Lib.hid (HR4.out.keeps hk5)
  obtain ⟨a5, c5, rfl, hr5, -⟩ := ho5.shape
  have HR5 := Lib.hid hr5
  clear ho5 hk5 hr5
  go_wp2_with fail
  with_reducible refine (rturn_any a n cap xs q _ (by exact HX.out.keeps HK.out) (by omega) h1 h2).mono ?_
  rw [← HT.out]
  rintro e w6 ⟨v6, rfl, ho6, hk6⟩
  replace HK := Lib.hid (HK.out.trans hk6)
  replace HR4 := Lib.hid (HR4.out.keeps hk6)
  replace HR5 := Lib.hid (HR5.out.keeps hk6)
  obtain ⟨a6, c6, rfl, hr6, -⟩ := ho6.shape
  have HR6 := Lib.hid hr6
  clear ho6 hk6 hr6
  go_wp2_with fail
  with_reducible refine (same_yes3 a5 a6 ts.length c5 c6 ts _ (by exact HR5.out) (by exact HR6.out)).mono ?_
  rintro e w7 ⟨rfl, hk7⟩
  replace HK := Lib.hid (HK.out.trans hk7)
  replace HR4 := Lib.hid (HR4.out.keeps hk7)
  clear hk7 HR5 HR6
  go_wp2_with fail
  with_reducible refine (add_any b m capb ls _ (by exact HL.out.keeps HK.out) hl50 (by exact HL5.out)).mono ?_
  rw [← HS.out]
  rintro e w8 ⟨v8, rfl, ho8, hk8⟩
  replace HK := Lib.hid (HK.out.trans hk8)
  replace HR4 := Lib.hid (HR4.out.keeps hk8)
  obtain ⟨a8, c8, rfl, hr8, -⟩ := ho8.shape
  have HR8 := Lib.hid hr8
  clear ho8 hk8 hr8
  go_wp2_with fail
  with_reducible refine (radd_any b m capb ls _ (by exact HL.out.keeps HK.out) hl50 (by exact HL5.out)).mono ?_
  rw [← HS.out]
  rintro e w9 ⟨v9, rfl, ho9, hk9⟩
  replace HK := Lib.hid (HK.out.trans hk9)
  replace HR4 := Lib.hid (HR4.out.keeps hk9)
  replace HR8 := Lib.hid (HR8.out.keeps hk9)
  obtain ⟨a9, c9, rfl, hr9, -⟩ := ho9.shape
  have HR9 := Lib.hid hr9
  clear ho9 hk9 hr9
  go_wp2_with fail
  with_reducible refine (same_yes3 a8 a9 ss.length c8 c9 ss _ (by exact HR8.out) (by exact HR9.out)).mono ?_
  rintro e w10 ⟨rfl, hk10⟩
  replace HK := Lib.hid (HK.out.trans hk10)
  replace HR4 := Lib.hid (HR4.out.keeps hk10)
  clear hk10 HR8 HR9
  go_wp2_with fail
  with_reducible refine (same_yes3 a a4 n cap c4 xs _ (by exact HX.out.keeps HK.out) (by exact HR4.out)).mono ?_
  rintro e w11 ⟨rfl, hk11⟩
  go_wp2_with fail
  go_ret
  exact ⟨rfl, HK.out.trans hk11⟩
end Go.Proofs.Ytdjbalaicfienaa
