/- The walks of package bits, 2: set, blank, grown. -/
import Derived.Test.YtdjbalaicfienaaW1
import Derived.Test.YtdjbalaicfienaaQTail
namespace Go.Proofs.Ytdjbalaicfienaa
open Go.RowKit
set_option linter.unusedVariables false
set_option linter.unusedSimpArgs false

theorem or_mask (x i : Nat) (hx : x < 256) : bits .or .u8 (x : Int) (maskN i : Int) = ((x ||| maskN i : Nat) : Int) := u8_or_nat _ _ hx (pow_lt_256 i)

set_option maxHeartbeats 400000 in
theorem set_any (n : Int) (g len cap : Nat) (l : List Nat) (i : Nat) (w : World) (hg : Blk w .u8 5 g l) (hlen : l.length = len) (hi : i / 8 < len) (hcap : len ≤ cap) (hmax : cap ≤ 9223372036854775807) (hm : i ≤ 9223372036854775807)
    (hby : ∀ x ∈ l, x < 256) :
    Calls Try.prog 93 #[.agg #[.int .i64 n, .slice (some ⟨g, 0, none⟩) len cap], .int .i64 i] w fun e w' =>
      e = .returned (.tuple #[]) ∧ Blk w' .u8 5 g (l.set (i / 8) (l.getD (i / 8) 0 ||| maskN i)) ∧ KeepsBut g w w' := by
  have hv := hg.cell (i / 8) (by omega)
  have hf := hg.frozen (i / 8)
  have hlt := hg.lt
  have hb := getD_lt hby (i / 8)
  obtain ⟨v, hvv⟩ : ∃ v, v = l.getD (i / 8) 0 := ⟨_, rfl⟩
  have HV := Lib.hid hvv
  rw [← hvv] at hv hb ⊢
  have HO := Lib.hid (or_mask v i hb)
  clear hvv
  have hi1 : (i : Int) / 8 < (len : Int) := by omega
  have hi0 : 0 ≤ (i : Int) / 8 := by omega
  go_enter Try.func93, Try.ntmps93
  go_wp2
  refine wp_region_quiet_tail_lit 10 (by kernel_rfl) (by kernel_rfl) ?_
  simp only [List.take_succ_cons, List.take_zero, List.drop_succ_cons, List.drop_zero]
  repeat (go_big_quiet_step ((go_at_call 103; exact Calls.quiet_of_same (mask_any _ _ (by omega)))))
  refine wpQuiet_nil ?_
  rintro _ ⟨nq, rfl⟩
  go_wp2
  go_end0
  refine ⟨rfl, ?_, ?_⟩
  · rw [HO.out]
    exact ((hg.keeps (((Keeps.refl w).alloc _).drewN nq)).set _ _)
  · exact ((((Keeps.refl w).alloc _).drewN nq).but g).trans (KeepsBut.setCell _ _ _ _)

theorem info_u8 : (Try.prog.info? 5).map (fun i => (i.zero, i.size, i.bytes)) = some (some (.int .u8 0), 1, 1) := by kernel_rfl
theorem size_u8 : (Try.prog.info? 5).map (·.size) = some 1 := by kernel_rfl

set_option maxHeartbeats 400000 in
theorem blank_any (v : Int) (n : Nat) (w : World) (hv : v = n) (h1 : n ≤ 1000000) :
    Calls Try.prog 102 #[.int .i64 v] w fun e w' => ∃ g, e = .returned (.agg #[.int .i64 n, .slice (some ⟨g, 0, none⟩) ((n + 7) / 8) ((n + 7) / 8)]) ∧
      Blk w' .u8 5 g (List.replicate ((n + 7) / 8) 0) ∧ w.heap.size ≤ g ∧ Keeps w w' := by
  subst hv
  have hmk := fun w => run_make_zeros (P := Try.prog) 24 5 1 .u8 Try.underlying24 info_u8 ((n + 7) / 8) (((n : Int) + 7) / 8) (by omega) (by omega) (by omega) w
  go_enter Try.func102, Try.ntmps102
  go_wp2_with (go_at_call 94; refine (need_any _ _ (by omega) (by omega)).mono ?_; rintro e w' ⟨rfl, rfl⟩)
  refine bodyPost_ret (by simp [results, Try.results102, go_sem]) rfl ⟨w.heap.size + 1, rfl, ?_, ?_, ?_⟩
  · have := Blk.zeros (w.alloc (.cells #[.int .i64 n, .slice (some ⟨w.heap.size + 1, 0, none⟩) ((n + 7) / 8) ((n + 7) / 8)] 26)) .u8 5 ((n + 7) / 8)
    simpa using this
  · omega
  · exact ((Keeps.refl _).alloc _).alloc _

set_option maxHeartbeats 400000 in
theorem grown_any (x : RB) (bs : List Bool) (v : Int) (more : Nat) (w : World) (hv : v = more) (hx : x.Is w bs) (h1 : bs.length + more ≤ 1000000) :
    Calls Try.prog 92 #[x.val, .int .i64 v] w fun e w' => ∃ g, e = .returned (.agg #[.int .i64 (bs.length + more : Nat), .slice (some ⟨g, 0, none⟩) ((bs.length + more + 7) / 8) ((bs.length + more + 7) / 8)]) ∧
      Blk w' .u8 5 g (pack (bs ++ List.replicate more false)) ∧ w.heap.size ≤ g ∧ Keeps w w' := by
  subst hv
  have hn := hx.n
  have hl := hx.l
  have hlen := hx.len
  have hrow := hx.isIn.row
  clear hx
  obtain ⟨n, a, len, cap, l⟩ := x
  simp only at hn hl hlen hrow
  subst hn hl hlen
  have hz := pack_zeros bs more
  have HP := Lib.hid (pack_len bs)
  obtain ⟨pk, hpk⟩ : ∃ pk, pk = pack bs := ⟨_, rfl⟩
  obtain ⟨pz, hpz⟩ : ∃ pz, pz = pack (bs ++ List.replicate more false) := ⟨_, rfl⟩
  rw [← hpk, ← hpz] at hz
  rw [← hpk] at HP hrow
  rw [← hpz]
  obtain ⟨m, hm⟩ : ∃ m, m = bs.length := ⟨_, rfl⟩
  rw [← hm] at hz HP hrow h1 ⊢
  simp only [RB.val]
  clear hm hpk hpz bs
  have HZ := Lib.hid hz
  clear hz
  go_enter Try.func92, Try.ntmps92
  go_wp2_with fail
  refine (blank_any _ (m + more) _ (by omega) (by omega)).mono ?_
  rintro e w1 ⟨g, rfl, hblk, hg, hk⟩
  simp only [World.size_alloc] at hg
  obtain ⟨hc, hf⟩ := hk.rules
  have hsz := hk.size
  simp only [World.size_alloc] at hsz
  have hz0 : w.heap.size < w1.heap.size := by omega
  have hz1 : w.heap.size + 1 < w1.heap.size := by omega
  have hrow1 := hrow.keeps (((Keeps.refl w).alloc _).alloc _ |>.trans hk)
  have hgl := hblk.lt
  go_wp2_with (refine wpList_copy_blk rfl (.tmp 12) (.tmp 14) 24 24 rfl 5 Try.underlying24 size_u8 .u8 _ _ _ _ _ _ rfl rfl g 0 5 _ _ (by exact hblk.keeps ((Keeps.refl _).alloc _)) (by exact hrow1.keeps ((Keeps.refl _).alloc _)) ?hp ?hfit ?hmain)
  case hfit => rw [List.length_replicate]; omega
  case hmain =>
    intro w2 hb2 hk2
    obtain ⟨hc2, hf2⟩ := hk2.rules
    have hs2 := hk2.size
    simp only [World.size_alloc] at hs2
    have hz2 : w1.heap.size < w2.heap.size := by omega
    have hz3 : w.heap.size + 1 < w2.heap.size := by omega
    have hn0 : ¬ w1.heap.size = g := by omega
    have hn1 : ¬ w.heap.size + 1 = g := by omega
    have hkk : Keeps w w2 := KeepsBut.keeps ((((Keeps.refl w).alloc _).alloc _).trans hk |>.alloc _) hk2 (by omega)
    have hbb : Blk w2 .u8 5 g pz := by
      have e : over (List.replicate ((m + more + 7) / 8) 0) 0 (List.take (min ((m + 7) / 8) ((m + more + 7) / 8)) pk) = pz := by
        rw [HZ.out, Nat.min_eq_left (by omega), List.take_of_length_le (by rw [HP.out]; omega)]
        simp [over, HP.out]
      rw [← e]
      exact hb2
    have HB := Lib.hid hbb
    have HK := Lib.hid hkk
    clear hb2 hk2 hbb hkk hblk hrow hrow1 hk
    go_wp2
    refine bodyPost_ret (by simp [results, Try.results92, go_sem, *]) rfl ⟨g, rfl, ?_, by omega, ?_⟩
    · exact (HB.out.keepsBut (KeepsBut.setCell _ _ _ _) (by omega)).keepsBut (KeepsBut.setCell _ _ _ _) (by omega)
    · exact (HK.out.setCell (by simp) _).setCell (by simp) _
end Go.Proofs.Ytdjbalaicfienaa
