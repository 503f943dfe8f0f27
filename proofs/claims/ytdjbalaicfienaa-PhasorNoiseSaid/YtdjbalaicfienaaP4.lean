/- The walks of layer 3, 3: preamble, Preamble on both sides, Same, Air. -/
import Derived.Test.YtdjbalaicfienaaP3
import Derived.Deep.QuietTactic
import Derived.BigQuiet
namespace Go.Proofs.Ytdjbalaicfienaa
open Go.RowKit
set_option linter.unusedVariables false
set_option linter.unusedSimpArgs false
def preS : List Smp := [⟨1, 1⟩, ⟨1, 1⟩, ⟨-1, -1⟩, ⟨1, -1⟩, ⟨-1, 1⟩, ⟨1, 1⟩, ⟨-1, 1⟩, ⟨1, -1⟩]
theorem run_store_complex {P : Program} {w : World} {a : Addr} {m : Mode} (k : FloatKind) (x y : Nat) : (store a (.complex k x y) m).run P w = stored P w a (.complex k x y) m := run_store P w a _ m rfl
attribute [local go_sem] run_store_complex
set_option maxRecDepth 100000 in
set_option maxHeartbeats 1000000 in
theorem preamble_any (w : World) : Calls Try.prog 72 #[] w fun e w' => e = .returned (.agg #[.complex .f64 4607182418800017408 4607182418800017408, .complex .f64 4607182418800017408 4607182418800017408, .complex .f64 13830554455654793216 13830554455654793216, .complex .f64 4607182418800017408 13830554455654793216, .complex .f64 13830554455654793216 4607182418800017408, .complex .f64 4607182418800017408 4607182418800017408, .complex .f64 13830554455654793216 4607182418800017408, .complex .f64 4607182418800017408 13830554455654793216]) ∧ Keeps w w' := by
  go_enter Try.func72, Try.ntmps72
  go_wp2_with fail
  refine bodyPost_ret (v := .agg #[.complex .f64 4607182418800017408 4607182418800017408, .complex .f64 4607182418800017408 4607182418800017408, .complex .f64 13830554455654793216 13830554455654793216, .complex .f64 4607182418800017408 13830554455654793216, .complex .f64 13830554455654793216 4607182418800017408, .complex .f64 4607182418800017408 4607182418800017408, .complex .f64 13830554455654793216 4607182418800017408, .complex .f64 4607182418800017408 13830554455654793216]) (by simp [results, Try.results72, go_sem, *]) rfl ⟨rfl, ?_⟩
  repeat (with_reducible refine Keeps.setCell ?_ (by first | (simp; done) | (simp; omega) | exact Nat.le_refl _) _)
  exact (Keeps.refl w).alloc _
set_option maxRecDepth 100000 in
set_option maxHeartbeats 4000000 in
theorem preamble03_any (w : World) : Calls Try.prog 43 #[] w fun e w' => ∃ v, e = .returned v ∧ OwnP w' w.heap.size v preS ∧ Keeps w w' := by
  go_enter Try.func43, Try.ntmps43
  go_wp2_with fail
  with_reducible refine (preamble_any _).mono ?_
  rintro e w1 ⟨rfl, hk1⟩
  have HK := Lib.hid hk1
  clear hk1
  go_wp2_with fail
  go_loopw [1, 5] (fun v i wr => ∃ k : Nat, k ≤ 8 ∧ i = .int .i64 k ∧ Hid (OwnP wr w.heap.size v (preS.take k)) ∧ Hid (Keeps w wr)) (fun _ i _ => 8 - (intOf i).toNat)
  case atStart => exact ⟨0, by omega, rfl, OwnP.nil _ _, HK⟩
  case round =>
    clear HK
    obtain ⟨k, hk, rfl, HO, HK⟩ := hrel
    have hsz := HK.out.size
    have hks : k = 0 ∨ k = 1 ∨ k = 2 ∨ k = 3 ∨ k = 4 ∨ k = 5 ∨ k = 6 ∨ k = 7 ∨ k = 8 := by omega
    rcases hks with rfl | rfl | rfl | rfl | rfl | rfl | rfl | rfl | rfl
    · have hix : ∀ w : World, (Instr.index 97 (.agg #[.complex .f64 4607182418800017408 4607182418800017408, .complex .f64 4607182418800017408 4607182418800017408, .complex .f64 13830554455654793216 13830554455654793216, .complex .f64 4607182418800017408 13830554455654793216, .complex .f64 13830554455654793216 4607182418800017408, .complex .f64 4607182418800017408 4607182418800017408, .complex .f64 13830554455654793216 4607182418800017408, .complex .f64 4607182418800017408 13830554455654793216]) (.int .i64 0)).run Try.prog w = .ok (.complex .f64 4607182418800017408 4607182418800017408) w := fun w => by kernel_rfl
      go_wp2_with fail
      with_reducible refine (sample_any 4607182418800017408 4607182418800017408 ⟨1, 1⟩ _ FInt.one FInt.one (by decide) (by decide)).mono ?_
      rintro e w2 ⟨rfl, hk2⟩
      have hsz2 := hk2.size
      go_wp2_with (refine wpList_joinP rfl _ _ rfl w.heap.size _ _ rfl (by exact (HO.out.keeps hk2).keeps ((Keeps.refl _).alloc _)) _ 1 1 [⟨1, 1⟩] rfl (by exact Box.smp (s := ⟨1, 1⟩) (Box.new _ _ _)) (by decide) (by simp; omega) ?hmain)
      case hmain =>
        intro v' w3 hown hg
        have HO3 : Hid (OwnP w3 w.heap.size v' (preS.take (0 + 1))) := Lib.hid hown
        have HK3 : Hid (Keeps w w3) := Lib.hid (hg.keeps ((HK.out.trans hk2).alloc _) (fun k hk => (HO.out.lt k hk).1))
        clear hown hg hk2 HO HK
        go_wp2_with fail
        go_roundw
        case rel => exact ⟨1, by omega, by go_num, HO3, HK3⟩
        case measure => simp [intOf]
    · have hix : ∀ w : World, (Instr.index 97 (.agg #[.complex .f64 4607182418800017408 4607182418800017408, .complex .f64 4607182418800017408 4607182418800017408, .complex .f64 13830554455654793216 13830554455654793216, .complex .f64 4607182418800017408 13830554455654793216, .complex .f64 13830554455654793216 4607182418800017408, .complex .f64 4607182418800017408 4607182418800017408, .complex .f64 13830554455654793216 4607182418800017408, .complex .f64 4607182418800017408 13830554455654793216]) (.int .i64 1)).run Try.prog w = .ok (.complex .f64 4607182418800017408 4607182418800017408) w := fun w => by kernel_rfl
      go_wp2_with fail
      with_reducible refine (sample_any 4607182418800017408 4607182418800017408 ⟨1, 1⟩ _ FInt.one FInt.one (by decide) (by decide)).mono ?_
      rintro e w2 ⟨rfl, hk2⟩
      have hsz2 := hk2.size
      go_wp2_with (refine wpList_joinP rfl _ _ rfl w.heap.size _ _ rfl (by exact (HO.out.keeps hk2).keeps ((Keeps.refl _).alloc _)) _ 1 1 [⟨1, 1⟩] rfl (by exact Box.smp (s := ⟨1, 1⟩) (Box.new _ _ _)) (by decide) (by simp; omega) ?hmain)
      case hmain =>
        intro v' w3 hown hg
        have HO3 : Hid (OwnP w3 w.heap.size v' (preS.take (1 + 1))) := Lib.hid hown
        have HK3 : Hid (Keeps w w3) := Lib.hid (hg.keeps ((HK.out.trans hk2).alloc _) (fun k hk => (HO.out.lt k hk).1))
        clear hown hg hk2 HO HK
        go_wp2_with fail
        go_roundw
        case rel => exact ⟨2, by omega, by go_num, HO3, HK3⟩
        case measure => simp [intOf]
    · have hix : ∀ w : World, (Instr.index 97 (.agg #[.complex .f64 4607182418800017408 4607182418800017408, .complex .f64 4607182418800017408 4607182418800017408, .complex .f64 13830554455654793216 13830554455654793216, .complex .f64 4607182418800017408 13830554455654793216, .complex .f64 13830554455654793216 4607182418800017408, .complex .f64 4607182418800017408 4607182418800017408, .complex .f64 13830554455654793216 4607182418800017408, .complex .f64 4607182418800017408 13830554455654793216]) (.int .i64 2)).run Try.prog w = .ok (.complex .f64 13830554455654793216 13830554455654793216) w := fun w => by kernel_rfl
      go_wp2_with fail
      with_reducible refine (sample_any 13830554455654793216 13830554455654793216 ⟨-1, -1⟩ _ FInt.mone FInt.mone (by decide) (by decide)).mono ?_
      rintro e w2 ⟨rfl, hk2⟩
      have hsz2 := hk2.size
      go_wp2_with (refine wpList_joinP rfl _ _ rfl w.heap.size _ _ rfl (by exact (HO.out.keeps hk2).keeps ((Keeps.refl _).alloc _)) _ 1 1 [⟨-1, -1⟩] rfl (by exact Box.smp (s := ⟨-1, -1⟩) (Box.new _ _ _)) (by decide) (by simp; omega) ?hmain)
      case hmain =>
        intro v' w3 hown hg
        have HO3 : Hid (OwnP w3 w.heap.size v' (preS.take (2 + 1))) := Lib.hid hown
        have HK3 : Hid (Keeps w w3) := Lib.hid (hg.keeps ((HK.out.trans hk2).alloc _) (fun k hk => (HO.out.lt k hk).1))
        clear hown hg hk2 HO HK
        go_wp2_with fail
        go_roundw
        case rel => exact ⟨3, by omega, by go_num, HO3, HK3⟩
        case measure => simp [intOf]
    · have hix : ∀ w : World, (Instr.index 97 (.agg #[.complex .f64 4607182418800017408 4607182418800017408, .complex .f64 4607182418800017408 4607182418800017408, .complex .f64 13830554455654793216 13830554455654793216, .complex .f64 4607182418800017408 13830554455654793216, .complex .f64 13830554455654793216 4607182418800017408, .complex .f64 4607182418800017408 4607182418800017408, .complex .f64 13830554455654793216 4607182418800017408, .complex .f64 4607182418800017408 13830554455654793216]) (.int .i64 3)).run Try.prog w = .ok (.complex .f64 4607182418800017408 13830554455654793216) w := fun w => by kernel_rfl
      go_wp2_with fail
      with_reducible refine (sample_any 4607182418800017408 13830554455654793216 ⟨1, -1⟩ _ FInt.one FInt.mone (by decide) (by decide)).mono ?_
      rintro e w2 ⟨rfl, hk2⟩
      have hsz2 := hk2.size
      go_wp2_with (refine wpList_joinP rfl _ _ rfl w.heap.size _ _ rfl (by exact (HO.out.keeps hk2).keeps ((Keeps.refl _).alloc _)) _ 1 1 [⟨1, -1⟩] rfl (by exact Box.smp (s := ⟨1, -1⟩) (Box.new _ _ _)) (by decide) (by simp; omega) ?hmain)
      case hmain =>
        intro v' w3 hown hg
        have HO3 : Hid (OwnP w3 w.heap.size v' (preS.take (3 + 1))) := Lib.hid hown
        have HK3 : Hid (Keeps w w3) := Lib.hid (hg.keeps ((HK.out.trans hk2).alloc _) (fun k hk => (HO.out.lt k hk).1))
        clear hown hg hk2 HO HK
        go_wp2_with fail
        go_roundw
        case rel => exact ⟨4, by omega, by go_num, HO3, HK3⟩
        case measure => simp [intOf]
    · have hix : ∀ w : World, (Instr.index 97 (.agg #[.complex .f64 4607182418800017408 4607182418800017408, .complex .f64 4607182418800017408 4607182418800017408, .complex .f64 13830554455654793216 13830554455654793216, .complex .f64 4607182418800017408 13830554455654793216, .complex .f64 13830554455654793216 4607182418800017408, .complex .f64 4607182418800017408 4607182418800017408, .complex .f64 13830554455654793216 4607182418800017408, .complex .f64 4607182418800017408 13830554455654793216]) (.int .i64 4)).run Try.prog w = .ok (.complex .f64 13830554455654793216 4607182418800017408) w := fun w => by kernel_rfl
      go_wp2_with fail
      with_reducible refine (sample_any 13830554455654793216 4607182418800017408 ⟨-1, 1⟩ _ FInt.mone FInt.one (by decide) (by decide)).mono ?_
      rintro e w2 ⟨rfl, hk2⟩
      have hsz2 := hk2.size
      go_wp2_with (refine wpList_joinP rfl _ _ rfl w.heap.size _ _ rfl (by exact (HO.out.keeps hk2).keeps ((Keeps.refl _).alloc _)) _ 1 1 [⟨-1, 1⟩] rfl (by exact Box.smp (s := ⟨-1, 1⟩) (Box.new _ _ _)) (by decide) (by simp; omega) ?hmain)
      case hmain =>
        intro v' w3 hown hg
        have HO3 : Hid (OwnP w3 w.heap.size v' (preS.take (4 + 1))) := Lib.hid hown
        have HK3 : Hid (Keeps w w3) := Lib.hid (hg.keeps ((HK.out.trans hk2).alloc _) (fun k hk => (HO.out.lt k hk).1))
        clear hown hg hk2 HO HK
        go_wp2_with fail
        go_roundw
        case rel => exact ⟨5, by omega, by go_num, HO3, HK3⟩
        case measure => simp [intOf]
    · have hix : ∀ w : World, (Instr.index 97 (.agg #[.complex .f64 4607182418800017408 4607182418800017408, .complex .f64 4607182418800017408 4607182418800017408, .complex .f64 13830554455654793216 13830554455654793216, .complex .f64 4607182418800017408 13830554455654793216, .complex .f64 13830554455654793216 4607182418800017408, .complex .f64 4607182418800017408 4607182418800017408, .complex .f64 13830554455654793216 4607182418800017408, .complex .f64 4607182418800017408 13830554455654793216]) (.int .i64 5)).run Try.prog w = .ok (.complex .f64 4607182418800017408 4607182418800017408) w := fun w => by kernel_rfl
      go_wp2_with fail
      with_reducible refine (sample_any 4607182418800017408 4607182418800017408 ⟨1, 1⟩ _ FInt.one FInt.one (by decide) (by decide)).mono ?_
      rintro e w2 ⟨rfl, hk2⟩
      have hsz2 := hk2.size
      go_wp2_with (refine wpList_joinP rfl _ _ rfl w.heap.size _ _ rfl (by exact (HO.out.keeps hk2).keeps ((Keeps.refl _).alloc _)) _ 1 1 [⟨1, 1⟩] rfl (by exact Box.smp (s := ⟨1, 1⟩) (Box.new _ _ _)) (by decide) (by simp; omega) ?hmain)
      case hmain =>
        intro v' w3 hown hg
        have HO3 : Hid (OwnP w3 w.heap.size v' (preS.take (5 + 1))) := Lib.hid hown
        have HK3 : Hid (Keeps w w3) := Lib.hid (hg.keeps ((HK.out.trans hk2).alloc _) (fun k hk => (HO.out.lt k hk).1))
        clear hown hg hk2 HO HK
        go_wp2_with fail
        go_roundw
        case rel => exact ⟨6, by omega, by go_num, HO3, HK3⟩
        case measure => simp [intOf]
    · have hix : ∀ w : World, (Instr.index 97 (.agg #[.complex .f64 4607182418800017408 4607182418800017408, .complex .f64 4607182418800017408 4607182418800017408, .complex .f64 13830554455654793216 13830554455654793216, .complex .f64 4607182418800017408 13830554455654793216, .complex .f64 13830554455654793216 4607182418800017408, .complex .f64 4607182418800017408 4607182418800017408, .complex .f64 13830554455654793216 4607182418800017408, .complex .f64 4607182418800017408 13830554455654793216]) (.int .i64 6)).run Try.prog w = .ok (.complex .f64 13830554455654793216 4607182418800017408) w := fun w => by kernel_rfl
      go_wp2_with fail
      with_reducible refine (sample_any 13830554455654793216 4607182418800017408 ⟨-1, 1⟩ _ FInt.mone FInt.one (by decide) (by decide)).mono ?_
      rintro e w2 ⟨rfl, hk2⟩
      have hsz2 := hk2.size
      go_wp2_with (refine wpList_joinP rfl _ _ rfl w.heap.size _ _ rfl (by exact (HO.out.keeps hk2).keeps ((Keeps.refl _).alloc _)) _ 1 1 [⟨-1, 1⟩] rfl (by exact Box.smp (s := ⟨-1, 1⟩) (Box.new _ _ _)) (by decide) (by simp; omega) ?hmain)
      case hmain =>
        intro v' w3 hown hg
        have HO3 : Hid (OwnP w3 w.heap.size v' (preS.take (6 + 1))) := Lib.hid hown
        have HK3 : Hid (Keeps w w3) := Lib.hid (hg.keeps ((HK.out.trans hk2).alloc _) (fun k hk => (HO.out.lt k hk).1))
        clear hown hg hk2 HO HK
        go_wp2_with fail
        go_roundw
        case rel => exact ⟨7, by omega, by go_num, HO3, HK3⟩
        case measure => simp [intOf]
    · have hix : ∀ w : World, (Instr.index 97 (.agg #[.complex .f64 4607182418800017408 4607182418800017408, .complex .f64 4607182418800017408 4607182418800017408, .complex .f64 13830554455654793216 13830554455654793216, .complex .f64 4607182418800017408 13830554455654793216, .complex .f64 13830554455654793216 4607182418800017408, .complex .f64 4607182418800017408 4607182418800017408, .complex .f64 13830554455654793216 4607182418800017408, .complex .f64 4607182418800017408 13830554455654793216]) (.int .i64 7)).run Try.prog w = .ok (.complex .f64 4607182418800017408 13830554455654793216) w := fun w => by kernel_rfl
      go_wp2_with fail
      with_reducible refine (sample_any 4607182418800017408 13830554455654793216 ⟨1, -1⟩ _ FInt.one FInt.mone (by decide) (by decide)).mono ?_
      rintro e w2 ⟨rfl, hk2⟩
      have hsz2 := hk2.size
      go_wp2_with (refine wpList_joinP rfl _ _ rfl w.heap.size _ _ rfl (by exact (HO.out.keeps hk2).keeps ((Keeps.refl _).alloc _)) _ 1 1 [⟨1, -1⟩] rfl (by exact Box.smp (s := ⟨1, -1⟩) (Box.new _ _ _)) (by decide) (by simp; omega) ?hmain)
      case hmain =>
        intro v' w3 hown hg
        have HO3 : Hid (OwnP w3 w.heap.size v' (preS.take (7 + 1))) := Lib.hid hown
        have HK3 : Hid (Keeps w w3) := Lib.hid (hg.keeps ((HK.out.trans hk2).alloc _) (fun k hk => (HO.out.lt k hk).1))
        clear hown hg hk2 HO HK
        go_wp2_with fail
        go_roundw
        case rel => exact ⟨8, by omega, by go_num, HO3, HK3⟩
        case measure => simp [intOf]
    · go_wp2_with fail
      go_ret
      exact ⟨_, rfl, HO.out, HK.out⟩
theorem preS_row (w : World) : SRow (w.alloc (.cells #[.int .i64 1, .int .i64 1, .int .i64 1, .int .i64 1, .int .i64 (-1), .int .i64 (-1), .int .i64 1, .int .i64 (-1), .int .i64 (-1), .int .i64 1, .int .i64 1, .int .i64 1, .int .i64 (-1), .int .i64 1, .int .i64 1, .int .i64 (-1)] 63)) (some ⟨w.heap.size, 0, none⟩) 8 8 preS := by
  have h := Box.new w 63 #[.int .i64 1, .int .i64 1, .int .i64 1, .int .i64 1, .int .i64 (-1), .int .i64 (-1), .int .i64 1, .int .i64 (-1), .int .i64 (-1), .int .i64 1, .int .i64 1, .int .i64 1, .int .i64 (-1), .int .i64 1, .int .i64 1, .int .i64 (-1)]
  refine ⟨rfl, Nat.le_refl _, by decide, fun i hi => ⟨w.heap.size, 0, rfl, ?_, ?_⟩⟩
  all_goals
    have hi' : i < 8 := hi
    match i, hi' with
    | 0, _ => exact h.cell _ _ rfl
    | 1, _ => exact h.cell _ _ rfl
    | 2, _ => exact h.cell _ _ rfl
    | 3, _ => exact h.cell _ _ rfl
    | 4, _ => exact h.cell _ _ rfl
    | 5, _ => exact h.cell _ _ rfl
    | 6, _ => exact h.cell _ _ rfl
    | 7, _ => exact h.cell _ _ rfl
set_option maxRecDepth 100000 in
set_option maxHeartbeats 1000000 in
theorem rpreamble_any (w : World) : Calls Try.prog 44 #[] w fun e w' => ∃ a, e = .returned (.slice a 8 8) ∧ SRow w' a 8 8 preS ∧ Keeps w w' := by
  go_enter Try.func44, Try.ntmps44
  go_wp2_with fail
  go_ret
  exact ⟨_, rfl, preS_row w, (Keeps.refl w).alloc _⟩
set_option maxRecDepth 100000 in
set_option maxHeartbeats 1000000 in
theorem same_yes3 (a b : Option Addr) (n ca cb : Nat) (xs : List Smp) (w : World) (hx : SRow w a n ca xs) (hy : SRow w b n cb xs) :
    Calls Try.prog 40 #[.slice a n ca, .slice b n cb] w fun e w' => e = .returned (.bool true) ∧ Keeps w w' := by
  have HX := Lib.hid hx
  have HY := Lib.hid hy
  have hlen := hx.len
  have h1 := hx.hcap
  have h2 := hx.hmax
  have h3 := hy.hcap
  have h4 := hy.hmax
  subst hlen
  clear hx hy
  go_enter Try.func40, Try.ntmps40
  go_wp2_with fail
  go_loopw [5] (fun i wr => ∃ k : Nat, k ≤ xs.length ∧ i = .int .i64 k ∧ Hid (Keeps w wr)) (fun i _ => xs.length - (intOf i).toNat)
  case atStart => exact ⟨0, Nat.zero_le _, rfl, Keeps.refl _⟩
  case round =>
    obtain ⟨k, hk, rfl, HK⟩ := hrel
    by_cases hlt : k < xs.length
    · obtain ⟨b1, o1, rfl, hb1, hcell1⟩ := (HX.out.keeps HK.out).addr (by omega)
      obtain ⟨b2, o2, rfl, hb2, hcell2⟩ := (HY.out.keeps HK.out).addr (by omega)
      obtain ⟨c0, c1⟩ := hcell1 k hlt
      obtain ⟨d0, d1⟩ := hcell2 k hlt
      clear hcell1 hcell2
      obtain ⟨x, hx⟩ : ∃ x, x = xs[k] := ⟨_, rfl⟩
      rw [← hx] at c0 c1 d0 d1
      clear hx
      obtain ⟨si, sq⟩ := x
      simp only at c0 c1 d0 d1
      go_wp2_with fail
      go_quiet (fail)
      go_wp2_with fail
      go_roundw
      case rel => exact ⟨k + 1, by omega, by go_num, HK.out.drewN _⟩
      case measure => simp [intOf]; omega
    · obtain rfl : k = xs.length := by omega
      go_wp2_with fail
      go_ret
      exact ⟨rfl, HK.out⟩
set_option maxRecDepth 100000 in
set_option maxHeartbeats 1000000 in
theorem air_any (n : Int) (w : World) : Calls Try.prog 41 #[.int .i64 n] w fun e w' => e = .returned (.int .i64 (airN n)) ∧ w' = w := by
  have HA := Lib.hid (show airN n = if n < 0 ∨ 4095 < n then 0 else 14 + (n + 1) / 2 from rfl)
  obtain ⟨A, hA⟩ : ∃ A, A = airN n := ⟨_, rfl⟩
  rw [← hA] at HA ⊢
  clear hA
  by_cases h1 : n < 0
  · have hA : A = 0 := by rw [HA.out, if_pos (.inl h1)]
    subst hA
    have hd : decide (n < 0) = true := by simpa using h1
    go_enter Try.func41, Try.ntmps41
    go_wp2_with fail
    go_ret
    exact ⟨rfl, rfl⟩
  have hd : decide (n < 0) = false := by simpa using h1
  by_cases h2 : 4095 < n
  · have hA : A = 0 := by rw [HA.out, if_pos (.inr h2)]
    subst hA
    have hd2 : decide (4095 < n) = true := by simpa using h2
    go_enter Try.func41, Try.ntmps41
    go_wp2_with fail
    go_ret
    exact ⟨rfl, rfl⟩
  have hd2 : decide (4095 < n) = false := by simpa using h2
  have hA := HA.out
  rw [if_neg (by omega)] at hA
  have hq := air_quo n (by omega)
  have hw1 : IntKind.i64.wrap (n + 1) = n + 1 := wrap_small (by omega)
  have hw2 : IntKind.i64.wrap ((n + 1).tdiv 2) = (n + 1) / 2 := by rw [hq]; exact wrap_small (by omega)
  have hw3 : IntKind.i64.wrap (14 + (n + 1) / 2) = 14 + (n + 1) / 2 := wrap_small (by omega)
  subst hA
  go_enter Try.func41, Try.ntmps41
  go_wp2_with fail
  go_ret
  exact ⟨rfl, rfl⟩
set_option maxRecDepth 100000 in
set_option maxHeartbeats 1000000 in
theorem rair_any (n : Int) (w : World) : Calls Try.prog 42 #[.int .i64 n] w fun e w' => e = .returned (.int .i64 (airN n)) ∧ w' = w := by
  have HA := Lib.hid (show airN n = if n < 0 ∨ 4095 < n then 0 else 14 + (n + 1) / 2 from rfl)
  obtain ⟨A, hA⟩ : ∃ A, A = airN n := ⟨_, rfl⟩
  rw [← hA] at HA ⊢
  clear hA
  by_cases h1 : n < 0
  · have hA : A = 0 := by rw [HA.out, if_pos (.inl h1)]
    subst hA
    have hd : decide (n < 0) = true := by simpa using h1
    go_enter Try.func42, Try.ntmps42
    go_wp2_with fail
    go_ret
    exact ⟨rfl, rfl⟩
  have hd : decide (n < 0) = false := by simpa using h1
  by_cases h2 : 4095 < n
  · have hA : A = 0 := by rw [HA.out, if_pos (.inr h2)]
    subst hA
    have hd2 : decide (4095 < n) = true := by simpa using h2
    go_enter Try.func42, Try.ntmps42
    go_wp2_with fail
    go_ret
    exact ⟨rfl, rfl⟩
  have hd2 : decide (4095 < n) = false := by simpa using h2
  have hA := HA.out
  rw [if_neg (by omega)] at hA
  have hq := air_quo n (by omega)
  have hw1 : IntKind.i64.wrap (n + 1) = n + 1 := wrap_small (by omega)
  have hw2 : IntKind.i64.wrap ((n + 1).tdiv 2) = (n + 1) / 2 := by rw [hq]; exact wrap_small (by omega)
  have hw3 : IntKind.i64.wrap (14 + (n + 1) / 2) = 14 + (n + 1) / 2 := wrap_small (by omega)
  subst hA
  go_enter Try.func42, Try.ntmps42
  go_wp2_with fail
  go_ret
  exact ⟨rfl, rfl⟩
end Go.Proofs.Ytdjbalaicfienaa
