/- The walk of layer 20, 6: the reference's All of any signals. -/
import Derived.Test.YtcophhdlcjemeaaT10
import Derived.Deep.RegionHeld3
import Derived.Deep.DeepCutAuto
namespace Go.Proofs.Ytcophhdlcjemeaa
open Go.RowKit
set_option linter.unusedVariables false
set_option linter.unusedSimpArgs false
theorem RB.In.put {x : RB} {w : World} {B g : Nat} (h : x.In w) (hf : x.Fr B) (hg : g < B) (i : Nat) (v : Value) : x.In (w.setCell ⟨g, i, none⟩ v) :=
  h.keepsBut (KeepsBut.setCell _ _ _ _) fun a ha => by have := hf a ha; omega
set_option maxRecDepth 100000 in
set_option maxHeartbeats 1000000 in
theorem rall_any (o1 o2 : Int) (a : Option Addr) (n cap : Nat) (xs : List RSig) (w : World) (hx : RSs w a n cap xs) (hn : n ≤ 60) :
    Calls Try.prog 52 #[.agg #[.int .i64 o1, .int .i64 o2], .slice a n cap] w (AllPost o1 o2 xs w) := by
  have hlen := hx.len
  have hcap := hx.hcap
  have hmax := hx.hmax
  have HX := Lib.hid hx
  clear hx
  have HB := Lib.hid (Box.new w 30 #[.int .i64 o1, .int .i64 o2])
  have HK := Lib.hid ((Keeps.refl w).alloc (.cells #[.int .i64 o1, .int .i64 o2] 30))
  have HL := Lib.hid hlen
  clear hlen
  go_enter Try.func52, Try.ntmps52
  go_wp2_with fail
  go_loopw [5, 6] (fun v i wr => ∃ (k : Nat) (ys : List RSig), k ≤ n ∧ i = .int .i64 k ∧ Hid (OwnS wr (w.heap.size + 1) v ys) ∧ Hid (ys.map RSig.p = (xs.take k).filterMap (passP o1 o2)) ∧ ys.length ≤ k ∧ Hid (Box wr w.heap.size 30 #[.int .i64 o1, .int .i64 o2]) ∧ Hid (Keeps w wr)) (fun _ i _ => n - (intOf i).toNat)
  case atStart => exact ⟨0, [], Nat.zero_le _, rfl, Lib.hid (OwnS.nil _ _), Lib.hid (by simp), by simp, HB, HK⟩
  case round =>
    clear HB HK
    obtain ⟨k, ys, hk, rfl, HO, HY, hyl, HB, HK⟩ := hrel
    have b0 := HB.out.cell 0 _ rfl
    have b1 := HB.out.cell 1 _ rfl
    have bl := HB.out.lt
    by_cases hlt : k < n
    · obtain ⟨b, off, hab, hcell⟩ := (HX.out.keeps HK.out).addr (by rw [HL.out]; omega)
      subst hab
      have hk' : k < xs.length := by rw [HL.out]; exact hlt
      have hcell := hcell k hk'
      have HT := Lib.hid (filt_succ (f := passP o1 o2) xs k hk')
      have HIN := Lib.hid ((HX.out.keeps HK.out).isIn xs[k] (List.getElem_mem _))
      obtain ⟨y, hy⟩ : ∃ y, y = xs[k] := ⟨_, rfl⟩
      rw [← hy] at hcell HT HIN
      clear hy hk'
      obtain ⟨fr, f, t, lv, bn, ba, blen, bcap, bls⟩ := y
      have c0 := hcell 0 _ rfl
      have c1 := hcell 1 _ rfl
      have c2 := hcell 2 _ rfl
      have c3 := hcell 3 _ rfl
      have c4 := hcell 4 _ rfl
      have c5 := hcell 5 _ rfl
      clear hcell
      simp only [Nat.add_zero] at c0
      have HPA := Lib.hid (fun w h => rpass_any o1 o2 ⟨fr, f, t, lv, bn, ba, blen, bcap, bls⟩ w h)
      simp only at HIN
      obtain ⟨P, hP⟩ : ∃ P, P = passP o1 o2 ⟨fr, f, t, lv, bn, ba, blen, bcap, bls⟩ := ⟨_, rfl⟩
      rw [← hP] at HT
      have HPP := Lib.hid hP
      clear hP
      have HKN := Lib.hid (Keeps.refl wr)
      go_upto_region 5 with fail
      go_cut [7, 8] (fun v7 v8 wx => ∃ (g : Nat) (r : RSig), v7 = .pointer (some ⟨g, 0, none⟩) ∧ v8 = .bool P.isSome ∧ r.p = P.getD RSig.zero.p ∧ Hid (Box wx g 73 r.cells.toArray) ∧ wr.heap.size ≤ g ∧ Hid (r.b.In wx) ∧ Hid (r.b.Fr wr.heap.size) ∧ Hid (Keeps wr wx))
      case first =>
        clear HX HL HO HY HB HK HT
        go_region_held3 (fun w' => w'.cell? ⟨w.heap.size, 0, none⟩ = some (.int .i64 o1) ∧ w'.cell? ⟨w.heap.size, 1, none⟩ = some (.int .i64 o2) ∧ w'.cell? ⟨b, off + k * 6, none⟩ = some (.int .i64 fr) ∧ w'.cell? ⟨b, off + k * 6 + 1, none⟩ = some (.int .i64 f) ∧ w'.cell? ⟨b, off + k * 6 + 2, none⟩ = some (.int .i64 t) ∧ w'.cell? ⟨b, off + k * 6 + 3, none⟩ = some (.int .i64 lv) ∧ w'.cell? ⟨b, off + k * 6 + 4, none⟩ = some (.int .i64 bn) ∧ w'.cell? ⟨b, off + k * 6 + 5, none⟩ = some (.slice ba blen bcap))
          ((refine ⟨Keeps.later (a := wr) ?_ b0, Keeps.later (a := wr) ?_ b1, Keeps.later (a := wr) ?_ c0, Keeps.later (a := wr) ?_ c1, Keeps.later (a := wr) ?_ c2, Keeps.later (a := wr) ?_ c3, Keeps.later (a := wr) ?_ c4, Keeps.later (a := wr) ?_ c5⟩ <;> repeat (first | with_reducible exact HKN.out | with_reducible refine Keeps.setCell ?_ hng _ | with_reducible refine Keeps.alloc ?_ _ | with_reducible refine Keeps.drew ?_)))
          (first | (go_at_call 53; (with_reducible refine (HPA.out _ (HIN.out.keeps (by repeat (first | with_reducible exact HKN.out | with_reducible refine Keeps.setCell ?_ hng _ | with_reducible refine Keeps.alloc ?_ _ | with_reducible refine Keeps.drew ?_)))).mono ?_); rintro e u ⟨r, is, rfl, hr, hk⟩; have hsz := HKN.out.size; have hfz := hr.fr; (first | simp only [World.size_alloc, World.size_drew] at hfz | skip); have HRF := Lib.hid hfz; have HRI := Lib.hid hr.isIn; have HIS := Lib.hid (hr.is.trans (congrArg Option.isSome HPP.out.symm)); have HRP := Lib.hid (hr.p.trans (congrArg (fun z => Option.getD z RSig.zero.p) HPP.out.symm)); clear hfz hr; have HKM := Lib.hid (Keeps.trans (show Keeps wr _ by repeat (first | with_reducible exact HKN.out | with_reducible refine Keeps.setCell ?_ hng _ | with_reducible refine Keeps.alloc ?_ _ | with_reducible refine Keeps.drew ?_)) hk); (first | (with_reducible have HNB := Lib.hid (Box.keeps (Box.new _ 73 #[.int .i64 0, .int .i64 0, .int .i64 0, .int .i64 0, .int .i64 0, .slice none 0 0]) hk); have hng := HKN.out.size) | (with_reducible have HNB := Lib.hid (Box.keeps (Box.keeps (Box.new _ 73 #[.int .i64 0, .int .i64 0, .int .i64 0, .int .i64 0, .int .i64 0, .slice none 0 0]) ((Keeps.refl _).drew)) hk); have hng := HKN.out.size) | skip); (first | (have hnb := HNB.out; have g0 := hnb.cell 0 _ rfl; have g1 := hnb.cell 1 _ rfl; have g2 := hnb.cell 2 _ rfl; have g3 := hnb.cell 3 _ rfl; have g4 := hnb.cell 4 _ rfl; have g5 := hnb.cell 5 _ rfl; have gf := hnb.frozen; have gl := hnb.lt; clear hnb) | skip); clear hk HKN; have HKN := HKM; clear HKM; obtain ⟨rfr, rf, rt, rlv, rbn, rba, rblen, rbcap, rbls⟩ := r))
        all_goals
          go_wp2_with fail
        all_goals
          go_meet
          first
            | (have hnb := HNB.out
               have hgb : wr.heap.size < wr.heap.size + 1 := Nat.lt_succ_self _
               exact ⟨_, ⟨rfr, rf, rt, rlv, rbn, rba, rblen, rbcap, rbls⟩, rfl, congrArg Value.bool HIS.out, HRP.out, Lib.hid (Box.putM (Box.putM (Box.putM (Box.putM (Box.putM (Box.putM hnb 0 _) 1 _) 2 _) 3 _) 4 _) 5 _), hng, Lib.hid (RB.In.put (RB.In.put (RB.In.put (RB.In.put (RB.In.put (RB.In.put HRI.out HRF.out hgb 0 _) HRF.out hgb 1 _) HRF.out hgb 2 _) HRF.out hgb 3 _) HRF.out hgb 4 _) HRF.out hgb 5 _), Lib.hid (HRF.out.mono (Nat.le_succ _)), Lib.hid ((((((HKN.out.setCell hng _).setCell hng _).setCell hng _).setCell hng _).setCell hng _).setCell hng _)⟩)
            | exact ⟨_, ⟨rfr, rf, rt, rlv, rbn, rba, rblen, rbcap, rbls⟩, rfl, congrArg Value.bool HIS.out, HRP.out, Lib.hid (Box.new _ _ _), HKN.out.size, Lib.hid (HRI.out.keeps ((Keeps.refl _).alloc _)), Lib.hid HRF.out, Lib.hid (HKN.out.alloc _)⟩
      case rest =>
        obtain ⟨g, r, rfl, rfl, hrp, HG, hg0, HRI, HRF, HKC⟩ := hcut
        obtain ⟨rfr, rf, rt, rlv, rbn, rba, rblen, rbcap, rbls⟩ := r
        have HRP := Lib.hid hrp
        simp only at HRI HRF
        have HOL := Lib.hid (fun k h => (HO.out.lt k h).2)
        have hwl := HKC.out.size
        replace HO := Lib.hid (HO.out.keeps HKC.out)
        replace HB := Lib.hid (HB.out.keeps HKC.out)
        replace HK := Lib.hid (HK.out.trans HKC.out)
        clear hrp c0 c1 c2 c3 c4 c5 b0 b1 bl HKN HPA HPP HKC
        have g0 := HG.out.cell 0 _ rfl
        have g1 := HG.out.cell 1 _ rfl
        have g2 := HG.out.cell 2 _ rfl
        have g3 := HG.out.cell 3 _ rfl
        have g4 := HG.out.cell 4 _ rfl
        have g5 := HG.out.cell 5 _ rfl
        have gl := HG.out.lt
        cases P with
        | none =>
          simp only [Option.isSome_none]
          go_wp2_with fail
          go_roundw
          case rel => exact ⟨k + 1, ys, by omega, by go_num, HO, Lib.hid (by rw [HT.out, HY.out]; simp), by omega, HB, HK⟩
          case measure => simp [intOf]; omega
        | some q =>
          simp only [Option.isSome_some]
          have HNB := Lib.hid ((fun {W : World} (h : Keeps w W) => Box.new W 73 #[.int .i64 rfr, .int .i64 rf, .int .i64 rt, .int .i64 rlv, .int .i64 rbn, .slice rba rblen rbcap]) HK.out)
          have HO2 := Lib.hid (HO.out.keeps ((Keeps.refl _).alloc (.cells #[.int .i64 rfr, .int .i64 rf, .int .i64 rt, .int .i64 rlv, .int .i64 rbn, .slice rba rblen rbcap] 73)))
          have HB2 := Lib.hid (HB.out.next (.cells #[.int .i64 rfr, .int .i64 rf, .int .i64 rt, .int .i64 rlv, .int .i64 rbn, .slice rba rblen rbcap] 73))
          have HK2 := Lib.hid (HK.out.alloc (.cells #[.int .i64 rfr, .int .i64 rf, .int .i64 rt, .int .i64 rlv, .int .i64 rbn, .slice rba rblen rbcap] 73))
          have HRI2 := Lib.hid (HRI.out.keeps ((Keeps.refl _).alloc (.cells #[.int .i64 rfr, .int .i64 rf, .int .i64 rt, .int .i64 rlv, .int .i64 rbn, .slice rba rblen rbcap] 73)))
          have hbl := HB.out.lt
          have hls : ys.length + 1 ≤ 61 := by omega
          go_wp2_with (refine wpList_pushS rfl (.tmp 25) (.tmp 27) 81 rfl 64 _ Try.underlying81 infoSig rfl (w.heap.size + 1) _ ys rfl (by exact HO2.out) ⟨_, 0, none⟩ ⟨rfr, rf, rt, rlv, rbn, rba, rblen, rbcap, rbls⟩ rfl ?h1 ?h2 ?h3 ?h4 ?h5 ?h6 ?hmain)
          case h1 => exact cells_box HNB.out
          case h2 => exact HRI2.out
          case h3 => exact fun _ x hx hv => by have h1 := HRF.out x hx; have h2 := HOL.out _ hv; omega
          case h4 => omega
          case h5 => omega
          case h6 => simp; omega
          case hmain =>
            intro v' w3 hown hg hat
            have hbel := (Below.refl (w.heap.size + 1) _).grown hg (by simp; omega) (fun k hk => (HO2.out.lt k hk).1)
            have HO3 := Lib.hid hown
            have HB3 := Lib.hid (HB2.out.below hbel (by omega))
            have HK3 := Lib.hid (Keeps.below HK2.out hbel (by omega))
            clear hown hg hat hbel HO HB HK HO2 HB2 HK2 HRI2 HNB hbl g0 g1 g2 g3 g4 g5 gl
            go_wp2_with fail
            go_roundw
            case rel => exact ⟨k + 1, _, by omega, by go_num, HO3, Lib.hid (by rw [HT.out, List.map_append, HY.out]; simp only [List.map_cons, List.map_nil]; rw [show RSig.p _ = q from HRP.out]; rfl), by simp; omega, HB3, HK3⟩
            case measure => simp [intOf]; omega
    · obtain rfl : k = n := by omega
      go_wp2_with fail
      go_ret
      refine ⟨_, ys, rfl, HO.out.mono (by omega), ?_, HK.out⟩
      rw [HY.out, List.take_of_length_le (by rw [HL.out]; exact Nat.le_refl _)]
end Go.Proofs.Ytcophhdlcjemeaa
