/- The walks of the reference of layer 1, 4: Parse. -/
import Derived.Test.YtdjbalaicfienaaW10
namespace Go.Proofs.Ytdjbalaicfienaa
open Go.RowKit
set_option linter.unusedVariables false
set_option linter.unusedSimpArgs false

/-- the truths of a text of digits -/
def textBits (s : ByteArray) : List Bool := s.data.toList.map (· == 49)
/-- are these digits? -/
def digitB (c : UInt8) : Bool := c == 48 || c == 49
theorem textBits_len (s : ByteArray) : (textBits s).length = s.size := by simp [textBits]
theorem textBits_getD (s : ByteArray) (k : Nat) (h : k < s.size) : (textBits s).getD k false = (s[k] == 49) := by
  have h' : k < s.data.size := h
  simp only [textBits, List.getD_eq_getElem?_getD, List.getElem?_map, Array.getElem?_toList]
  rw [Array.getElem?_eq_getElem h']
  rfl

/-- the answer for a text -/
def parseErr (s : ByteArray) : Int := if s.data.toList.all digitB then 0 else 11
def parseBits (s : ByteArray) : List Bool := if s.data.toList.all digitB then textBits s else []
theorem parse_yes (s : ByteArray) (h : s.data.toList.all digitB = true) : parseErr s = 0 ∧ parseBits s = textBits s := by simp only [parseErr, parseBits, h, if_true, and_self]
theorem parse_no (s : ByteArray) (h : s.data.toList.all digitB = false) : parseErr s = 11 ∧ parseBits s = [] := by
  unfold parseErr parseBits
  rw [h]
  exact ⟨rfl, rfl⟩

set_option maxHeartbeats 400000 in
theorem rparse_long (s : ByteArray) (w : World) (hm : 4096 < s.size) (h63 : s.size ≤ 9223372036854775807) :
    Calls Try.prog 68 #[.string s] w fun e w' => e = .returned (.tuple #[RB.zero.val, .int .i64 3]) ∧ Keeps w w' := by
  go_enter Try.func68, Try.ntmps68
  go_wp2_with fail
  refine bodyPost_ret (by simp [results, Try.results68, go_sem, RB.val, RB.zero]) rfl ⟨rfl, (Keeps.refl _).alloc _⟩

set_option maxRecDepth 100000 in
set_option maxHeartbeats 1000000 in
theorem rparse_any (s : ByteArray) (w : World) (hm : s.size ≤ 4096) :
    Calls Try.prog 68 #[.string s] w fun e w' => ∃ y : RB, e = .returned (.tuple #[y.val, .int .i64 (parseErr s)]) ∧ y.Is w' (parseBits s) ∧ y.Fr w.heap.size ∧ Keeps w w' := by
  have hd : decide ((4096 : Int) < s.size) = false := by simp; omega
  go_enter Try.func68, Try.ntmps68
  go_wp2_with fail
  go_loopw [4, 5] (fun v i wr => ∃ k : Nat, k ≤ s.size ∧ i = .int .i64 k ∧ Hid (∀ j (hj : j < s.size), j < k → digitB s[j] = true) ∧ Hid (Own wr (w.heap.size + 1) 4 v (bVals (textBits s) k)) ∧
      Hid (Box wr w.heap.size 26 #[.int .i64 0, .slice none 0 0]) ∧ Hid (Keeps w wr)) (fun _ i _ => s.size - (intOf i).toNat)
  case atStart => exact ⟨0, by omega, rfl, fun j _ h => absurd h (by omega), Own.nil _ _ _, Box.new _ _ _, (Keeps.refl w).alloc _⟩
  case round =>
    clear hd
    obtain ⟨k, hk, rfl, HD, HO, HX, HK⟩ := hrel
    by_cases hlt : k < s.size
    · have hx0 := HX.out.cell 0 _ rfl
      have hx1 := HX.out.cell 1 _ rfl
      have hxf := HX.out.frozen
      have hcc : s[k] = 48 ∨ s[k] = 49 ∨ digitB s[k] = false := by
        by_cases h1 : s[k] = 48
        · exact .inl h1
        · by_cases h2 : s[k] = 49
          · exact .inr (.inl h2)
          · refine .inr (.inr ?_)
            simp [digitB, h1, h2]
      obtain ⟨c, hc⟩ : ∃ c, c = s[k] := ⟨_, rfl⟩
      have HC := Lib.hid hc
      rw [← hc] at hcc
      have hidx : ∀ w, (Instr.index 9 (.string s) (.int .i64 (k : Int))).run Try.prog w = .ok (.int .u8 (c.toNat : Int)) w := by
        intro w
        rw [hc, run_index_string _ _ _ _ _ Try.underlying9, dif_pos ⟨by omega, by omega⟩]
        simp only [Int.toNat_natCast]
      clear hc
      have hcase : c = 48 ∨ c = 49 ∨ digitB c = false := hcc
      have HG := Lib.hid (textBits_getD s k hlt)
      rw [← HC.out] at HG
      have HD2 : Hid (digitB c = true → ∀ j (hj : j < s.size), j < k + 1 → digitB s[j] = true) := by
        intro h j hj hjk
        by_cases hjk' : j = k
        · subst hjk'; rw [← HC.out]; exact h
        · exact HD.out j hj (by omega)
      have hlk : (bVals (textBits s) k).length = k := bVals_len _ _ (by rw [textBits_len]; exact hk)
      have HL := Lib.hid hlk
      have HV := Lib.hid (bVals_succ (textBits s) k (by rw [textBits_len]; exact hlt))
      have HE : Hid (digitB c = false → s.data.toList.all digitB = false) := by
        intro h
        rw [Bool.eq_false_iff]
        intro hh
        rw [List.all_eq_true] at hh
        have := hh s[k] (by
          have h' : k < s.data.size := hlt
          have : s[k] = s.data[k] := rfl
          rw [this, Array.mem_toList_iff]
          exact Array.getElem_mem h')
        rw [← HC.out, h] at this
        cases this
      clear hcc hlk HC HD
      rcases hcase with rfl | rfl | hcc
      · go_wp2_with (refine wpList_push rfl (.tmp 27) (.tmp 32) 102 rfl 4 1 (.bool false) Try.underlying102 info_bool rfl (w.heap.size + 1) _ _ rfl (by exact HO.out.keeps ((Keeps.refl _).alloc _)) _ _ rfl (by exact World.cell?_alloc_new _ _ _ _) rfl ?h1 ?h2 ?h3 ?hmain)
        case h1 => rw [HL.out]; omega
        case h2 => rw [HL.out]; omega
        case h3 => have := HX.out.lt; simp; omega
        case hmain =>
          intro v2 w2 hown hbel
          have hz := HX.out.lt
          have HX2 : Hid (Box w2 w.heap.size 26 #[.int .i64 0, .slice none 0 0]) := (HX.out.next _).below hbel (by omega)
          have HK2 : Hid (Keeps w w2) := (HK.out.alloc _).below hbel (by omega)
          have HO2 : Hid (Own w2 (w.heap.size + 1) 4 v2 (bVals (textBits s) (k + 1))) := by
            rw [HV.out, HG.out]; exact hown
          clear hown hbel hx0 hx1 hxf HX HK HO
          go_wp2_with fail
          go_roundw
          case rel => exact ⟨k + 1, by omega, by go_num, HD2.out rfl, HO2, HX2, HK2⟩
          case measure => simp [intOf]; omega
      · go_wp2_with (refine wpList_push rfl (.tmp 27) (.tmp 32) 102 rfl 4 1 (.bool false) Try.underlying102 info_bool rfl (w.heap.size + 1) _ _ rfl (by exact HO.out.keeps ((Keeps.refl _).alloc _)) _ _ rfl (by exact World.cell?_alloc_new _ _ _ _) rfl ?h1' ?h2' ?h3' ?hmain')
        case h1' => rw [HL.out]; omega
        case h2' => rw [HL.out]; omega
        case h3' => have := HX.out.lt; simp; omega
        case hmain' =>
          intro v2 w2 hown hbel
          have hz := HX.out.lt
          have HX2 : Hid (Box w2 w.heap.size 26 #[.int .i64 0, .slice none 0 0]) := (HX.out.next _).below hbel (by omega)
          have HK2 : Hid (Keeps w w2) := (HK.out.alloc _).below hbel (by omega)
          have HO2 : Hid (Own w2 (w.heap.size + 1) 4 v2 (bVals (textBits s) (k + 1))) := by
            rw [HV.out, HG.out]; exact hown
          clear hown hbel hx0 hx1 hxf HX HK HO
          go_wp2_with fail
          go_roundw
          case rel => exact ⟨k + 1, by omega, by go_num, HD2.out rfl, HO2, HX2, HK2⟩
          case measure => simp [intOf]; omega
      · have HN := Lib.hid hcc
        simp only [digitB, Bool.or_eq_false_iff, beq_eq_false_iff_ne, ne_eq, ← UInt8.toNat_inj] at hcc
        have hn1 : ((c.toNat : Int) != 48) = true := by
          have h1 : ¬ c.toNat = 48 := hcc.1
          simp; omega
        have hn2 : ((c.toNat : Int) != 49) = true := by
          have h1 : ¬ c.toNat = 49 := hcc.2
          simp; omega
        clear hcc
        go_wp2_with fail
        rw [(parse_no s (HE.out HN.out)).1, (parse_no s (HE.out HN.out)).2]
        refine bodyPost_ret (by simp [results, Try.results68, go_sem, RB.zero, *]) rfl ⟨RB.zero, rfl, RB.zero_is _, RB.zero_fr _, ?_⟩
        exact (HK.out.setCell (Nat.le_refl _) _).setCell (Nat.le_refl _) _
    · obtain rfl : k = s.size := by omega
      have hx0 := HX.out.cell 0 _ rfl
      have hx1 := HX.out.cell 1 _ rfl
      have hxf := HX.out.frozen
      have hall : s.data.toList.all digitB = true := by
        rw [List.all_eq_true]
        intro c hc
        obtain ⟨i, hi, rfl⟩ := List.getElem_of_mem hc
        have h' : i < s.size := by simpa using hi
        exact HD.out i h' h'
      have HA := Lib.hid hall
      clear hall
      have hbo : Hid (Own wr (w.heap.size + 1) 4 u4 ((textBits s).map Value.bool)) := by
        rw [← bVals_all, textBits_len]; exact HO.out
      go_wp2_with fail
      with_reducible refine (rof_ok _ (textBits s) _ (by exact hbo.out.bools) (by rw [textBits_len]; exact hm)).mono ?_
      rintro e w2 ⟨y, rfl, hy, hfr, hk2⟩
      replace hx0 := hk2.later hx0
      replace hx1 := hk2.later hx1
      have hxf2 : ∀ i, w2.frozen? ⟨w.heap.size, i, none⟩ = false := (HX.out.keeps hk2).frozen
      have HY := Lib.hid hy
      have hwr := HK.out.size
      have HF : Hid (y.Fr (w.heap.size + 1)) := hfr.mono HX.out.lt
      clear hfr
      have HK2 := Lib.hid (HK.out.trans hk2)
      clear hy hk2 hxf
      go_wp2_with fail
      rw [(parse_yes s HA.out).1, (parse_yes s HA.out).2]
      refine bodyPost_ret (by simp [results, Try.results68, go_sem, *]) rfl ⟨y, rfl, ?_, HF.out.mono (Nat.le_succ _), ?_⟩
      · exact (HY.out.put HF.out (Nat.lt_succ_self _) _ _).put HF.out (Nat.lt_succ_self _) _ _
      · exact (HK2.out.setCell (Nat.le_refl _) _).setCell (Nat.le_refl _) _
end Go.Proofs.Ytdjbalaicfienaa
