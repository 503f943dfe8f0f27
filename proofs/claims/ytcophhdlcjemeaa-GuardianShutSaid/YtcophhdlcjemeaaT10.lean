/- The walk of layer 20, 5: All of any signals. -/
import Derived.Test.YtcophhdlcjemeaaT9
import Derived.Outline
namespace Go.Proofs.Ytcophhdlcjemeaa
open Go.RowKit
set_option linter.unusedVariables false
set_option linter.unusedSimpArgs false
/-- what All answers -/
def AllPost (o1 o2 : Int) (xs : List RSig) (w : World) (e : Ending) (w' : World) : Prop := ∃ v ys, e = .returned v ∧ OwnS w' w.heap.size v ys ∧ ys.map RSig.p = xs.filterMap (passP o1 o2) ∧ Keeps w w'
theorem OwnS.mono {w : World} {base base' : Nat} {v : Value} {xs : List RSig} (h : OwnS w base v xs) (hb : base' ≤ base) : OwnS w base' v xs := by
  refine ⟨⟨h.row.1, ?_⟩, h.isIn, h.far⟩
  rcases h.row.2 with hn | ⟨g, cap, cur, hv, hbg, rest⟩
  · exact .inl hn
  · exact .inr ⟨g, cap, cur, hv, Nat.le_trans hb hbg, rest⟩
theorem cells_box {w : World} {b : Nat} {y : RSig} (h : Box w b 73 y.cells.toArray) : ∀ j u, y.cells[j]? = some u → w.cell? ((⟨b, 0, none⟩ : Addr).add j) = some u := fun j u hj => by
  have := h.cell j u (by simpa using hj)
  by_cases hj0 : j = 0
  · subst hj0; simpa [Addr.add] using this
  · simpa [Addr.add, hj0] using this
theorem filt_succ {α β : Type} {f : α → Option β} (xs : List α) (k : Nat) (h : k < xs.length) : (xs.take (k + 1)).filterMap f = (xs.take k).filterMap f ++ (f xs[k]).toList := by
  rw [List.take_succ_eq_append_getElem h, List.filterMap_append]
  rw [List.filterMap_cons, List.filterMap_nil]
  cases hf : f xs[k] <;> simp
set_option maxRecDepth 100000 in
set_option maxHeartbeats 1000000 in
theorem all_any (o1 o2 : Int) (a : Option Addr) (n cap : Nat) (xs : List RSig) (w : World) (hx : RSs w a n cap xs) (hn : n ≤ 60) :
    Calls Try.prog 51 #[.agg #[.int .i64 o1, .int .i64 o2], .slice a n cap] w (AllPost o1 o2 xs w) := by
  have hlen := hx.len
  have hcap := hx.hcap
  have hmax := hx.hmax
  have HX := Lib.hid hx
  clear hx
  have HB := Lib.hid (Box.new w 30 #[.int .i64 o1, .int .i64 o2])
  have HK := Lib.hid ((Keeps.refl w).alloc (.cells #[.int .i64 o1, .int .i64 o2] 30))
  have HL := Lib.hid hlen
  clear hlen
  go_enter Try.func51, Try.ntmps51
  go_wp2_with fail
  go_loopw [5, 12] (fun v i wr => ∃ (k : Nat) (ys : List RSig), k ≤ n ∧ i = .int .i64 k ∧ Hid (OwnS wr (w.heap.size + 1) v ys) ∧ Hid (ys.map RSig.p = (xs.take k).filterMap (passP o1 o2)) ∧ ys.length ≤ k ∧ Hid (Box wr w.heap.size 30 #[.int .i64 o1, .int .i64 o2]) ∧ Hid (Keeps w wr)) (fun _ i _ => n - (intOf i).toNat)
  case atStart => exact ⟨0, [], Nat.zero_le _, rfl, Lib.hid (OwnS.nil _ _), Lib.hid (by simp), by simp, HB, HK⟩
  case round =>
    clear HB HK
    obtain ⟨k, ys, hk, rfl, HO, HY, hyl, HB, HK⟩ := hrel
    have b0 := HB.out.cell 0 _ rfl
    have b1 := HB.out.cell 1 _ rfl
    have bl := HB.out.lt
    by_cases hlt : k < n
    · obtain ⟨b, off, hab, hcell⟩ := (HX.out.keeps HK.out).addr (by rw [HL.out]; omega)
      subst hab
      have hk' : k < xs.length := by rw [HL.out]; exact hlt
      have hcell := hcell k hk'
      have HT := Lib.hid (filt_succ (f := passP o1 o2) xs k hk')
      have HIN := Lib.hid ((HX.out.keeps HK.out).isIn xs[k] (List.getElem_mem _))
      obtain ⟨y, hy⟩ : ∃ y, y = xs[k] := ⟨_, rfl⟩
      rw [← hy] at hcell HT HIN
      clear hy hk'
      obtain ⟨fr, f, t, lv, bn, ba, blen, bcap, bls⟩ := y
      have c0 := hcell 0 _ rfl
      have c1 := hcell 1 _ rfl
      have c2 := hcell 2 _ rfl
      have c3 := hcell 3 _ rfl
      have c4 := hcell 4 _ rfl
      have c5 := hcell 5 _ rfl
      clear hcell
      simp only [Nat.add_zero] at c0
      have HPA := Lib.hid (fun w h => pass_any o1 o2 ⟨fr, f, t, lv, bn, ba, blen, bcap, bls⟩ w h)
      simp only at HIN
      go_wp2_with fail
      with_reducible refine (HPA.out _ (by exact HIN.out.keeps ((Keeps.refl _).alloc _))).mono ?_
      rintro e w1 ⟨r, is, rfl, hr, hk1⟩
      have HR := Lib.hid hr
      obtain ⟨P, hP⟩ : ∃ P, P = passP o1 o2 ⟨fr, f, t, lv, bn, ba, blen, bcap, bls⟩ := ⟨_, rfl⟩
      rw [← hP] at HT
      have HIS : Hid (is = P.isSome) := Lib.hid (by rw [hr.is, hP])
      have HRP : Hid (r.p = P.getD RSig.zero.p) := Lib.hid (by rw [hr.p, hP])
      have HRI := Lib.hid hr.isIn
      have HRF := Lib.hid hr.fr
      clear hP HPA HR
      replace hk1 : Keeps wr w1 := ((Keeps.refl _).alloc _).trans hk1
      have hwl := hk1.size
      have HKW := Lib.hid hk1
      have HOL := Lib.hid (fun k h => (HO.out.lt k h).2)
      replace HO := Lib.hid (HO.out.keeps hk1)
      replace HB := Lib.hid (HB.out.keeps hk1)
      replace HK := Lib.hid (HK.out.trans hk1)
      clear hk1 hr c0 c1 c2 c3 c4 c5 b0 b1 bl
      obtain ⟨rfr, rf, rt, rlv, rbn, rba, rblen, rbcap, rbls⟩ := r
      simp only at HRI HRF
      cases P with
      | none =>
        have hf : is = false := HIS.out
        subst hf
        go_wp2_with fail
        go_roundw
        case rel => exact ⟨k + 1, ys, by omega, by go_num, Lib.hid (HO.out.keeps ((Keeps.refl _).alloc _)), Lib.hid (by rw [HT.out, HY.out]; simp), by omega, Lib.hid (HB.out.next _), Lib.hid (HK.out.alloc _)⟩
        case measure => simp [intOf]; omega
      | some q =>
        have hf : is = true := HIS.out
        subst hf
        have hnb := Box.new (w1.alloc (.cells #[.int .i64 rfr, .int .i64 rf, .int .i64 rt, .int .i64 rlv, .int .i64 rbn, .slice rba rblen rbcap] 73)) 73 #[.int .i64 rfr, .int .i64 rf, .int .i64 rt, .int .i64 rlv, .int .i64 rbn, .slice rba rblen rbcap]
        rw [World.size_alloc] at hnb
        have HNB := Lib.hid hnb
        clear hnb
        have HO2 := Lib.hid ((HO.out.keeps ((Keeps.refl w1).alloc (.cells #[.int .i64 rfr, .int .i64 rf, .int .i64 rt, .int .i64 rlv, .int .i64 rbn, .slice rba rblen rbcap] 73))).keeps ((Keeps.refl _).alloc (.cells #[.int .i64 rfr, .int .i64 rf, .int .i64 rt, .int .i64 rlv, .int .i64 rbn, .slice rba rblen rbcap] 73)))
        have HB2 := Lib.hid ((HB.out.next (.cells #[.int .i64 rfr, .int .i64 rf, .int .i64 rt, .int .i64 rlv, .int .i64 rbn, .slice rba rblen rbcap] 73)).next (.cells #[.int .i64 rfr, .int .i64 rf, .int .i64 rt, .int .i64 rlv, .int .i64 rbn, .slice rba rblen rbcap] 73))
        have HK2 := Lib.hid ((HK.out.alloc (.cells #[.int .i64 rfr, .int .i64 rf, .int .i64 rt, .int .i64 rlv, .int .i64 rbn, .slice rba rblen rbcap] 73)).alloc (.cells #[.int .i64 rfr, .int .i64 rf, .int .i64 rt, .int .i64 rlv, .int .i64 rbn, .slice rba rblen rbcap] 73))
        have HRI2 := Lib.hid ((HRI.out.keeps ((Keeps.refl w1).alloc (.cells #[.int .i64 rfr, .int .i64 rf, .int .i64 rt, .int .i64 rlv, .int .i64 rbn, .slice rba rblen rbcap] 73))).keeps ((Keeps.refl _).alloc (.cells #[.int .i64 rfr, .int .i64 rf, .int .i64 rt, .int .i64 rlv, .int .i64 rbn, .slice rba rblen rbcap] 73)))
        have hbl := HB.out.lt
        have hls : ys.length + 1 ≤ 61 := by omega
        go_wp2_with (refine wpList_pushS rfl (.tmp 23) (.tmp 25) 81 rfl 64 _ Try.underlying81 infoSig rfl (w.heap.size + 1) _ ys rfl (by exact HO2.out) ⟨w1.heap.size + 1, 0, none⟩ ⟨rfr, rf, rt, rlv, rbn, rba, rblen, rbcap, rbls⟩ rfl ?h1 ?h2 ?h3 ?h4 ?h5 ?h6 ?hmain)
        case h1 => exact cells_box HNB.out
        case h2 => exact HRI2.out
        case h3 => exact fun _ x hx hv => by have h1 := HRF.out x hx; have h2 := HOL.out _ hv; simp at h1; omega
        case h4 => omega
        case h5 => omega
        case h6 => simp; omega
        case hmain =>
          intro v' w3 hown hg hat
          have hbel := (Below.refl (w.heap.size + 1) _).grown hg (by simp; omega) (fun k hk => (HO2.out.lt k hk).1)
          have HO3 := Lib.hid hown
          have HB3 := Lib.hid (HB2.out.below hbel (by omega))
          have HK3 := Lib.hid (Keeps.below HK2.out hbel (by omega))
          clear hown hg hat hbel HO HB HK HO2 HB2 HK2 HRI2 HNB hbl
          go_wp2_with fail
          go_roundw
          case rel => exact ⟨k + 1, _, by omega, by go_num, HO3, Lib.hid (by rw [HT.out, List.map_append, HY.out]; simp only [List.map_cons, List.map_nil]; rw [show RSig.p _ = q from HRP.out]; rfl), by simp; omega, HB3, HK3⟩
          case measure => simp [intOf]; omega
    · obtain rfl : k = n := by omega
      go_wp2_with fail
      go_ret
      refine ⟨_, ys, rfl, HO.out.mono (by omega), ?_, HK.out⟩
      rw [HY.out, List.take_of_length_le (by rw [HL.out]; exact Nat.le_refl _)]
end Go.Proofs.Ytcophhdlcjemeaa
