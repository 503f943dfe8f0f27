/- cni.Same. -/
import Derived.Test.YtcophhdlcjemeaaK23
import Derived.Test.YtcophhdlcjemeaaK24
import Derived.Deep.RegionHeld3
namespace Go.Proofs.Ytcophhdlcjemeaa
open Go.RowKit
set_option linter.unusedVariables false
set_option linter.unusedSimpArgs false
section
variable {P : Program} {ops : Array Oper} {md : Region.Mode} {S : World → Prop}
/-- an operation that yields is taken first -/
theorem take_op {Q : Exit → Act → World → Prop} {i : Nat} {oi : Oper} {fuel : Nat} {listed : Array Bool} {a : Act} {w : World} (hi : ops[i]? = some oi)
    (h : Region.noSelect ops = true ∧ Region.free md ops listed i = true ∧ (Region.ready md ops listed).contains i = true ∧ ∃ v, (∀ c a w, Q (.panic c) (a.put oi.dst v) w → Q (.panic c) a w) ∧ YieldsIf P ops S oi v a ∧ S w ∧ wpAnyH P md ops Q S fuel (listed.setIfInBounds i true) (a.put oi.dst v) w) : wpAnyH P md ops Q S (fuel + 1) listed a w := by
  obtain ⟨h1, h2, h3, v, h4, h5, h6, h7⟩ := h
  exact wpAnyH_take hi h1 h2 h3 h4 h5 h6 h7
theorem ready_op {Q : Exit → Act → World → Prop} {fuel : Nat} {listed : Array Bool} {a : Act} {w : World} {i : Nat} {o : Oper} (ho : ops[i]? = some o)
    (h : ∀ K' : Act → World → Prop, Shut (∀ a w, S w → (S w → wpAnyH P md ops Q S fuel (listed.setIfInBounds i true) a w) → K' a w) → if Region.wanted o (yielded ops a.tmps) = true then Oper.wp P o a w K' Q else K' (a.put o.dst undef) w) : AllReadyH P md ops Q S fuel listed a w [i] :=
  AllReadyH.cons ho h AllReadyH.nil
end
theorem sameC_all (p q : PCni) (f : PCni → List Int) : sameC p q = (decide (p.id = q.id) && (decide (p.life = q.life) && (decide (p.want = q.want) && (decide (p.o = q.o) && (decide (f p = f q) && decide (p.ms = q.ms)))))) := by
  by_cases h : p = q
  · subst h
    rw [sameC_self]
    simp
  · rw [show sameC p q = false by rw [Bool.eq_false_iff, ne_eq, sameC_iff]; exact h]
    symm
    rw [Bool.eq_false_iff]
    intro hh
    simp only [Bool.and_eq_true, decide_eq_true_eq] at hh
    obtain ⟨h1, h2, h3, h4, -, h5⟩ := hh
    apply h
    obtain ⟨a, b, c, d, e⟩ := p
    obtain ⟨a', b', c', d', e'⟩ := q
    simp only at h1 h2 h3 h4 h5
    rw [h1, h2, h3, h4, h5]
set_option maxRecDepth 100000 in
set_option maxHeartbeats 4000000 in
theorem same12_any (x y : RCni) (w : World) (hx : x.In w) (hy : y.In w) : Calls Try.prog 39 #[x.val, y.val] w fun e w' => e = .returned (.bool (sameC x.p y.p)) ∧ Keeps w w' := by
  have HR := Lib.hid (sameC_all x.p y.p (fun p => (freshP p 255).map fun j : Nat => (j : Int)))
  have HEI : Hid (∀ u v w, Ints w u ((freshP x.p 255).map fun j : Nat => (j : Int)) → Ints w v ((freshP y.p 255).map fun j : Nat => (j : Int)) → Calls Try.prog 34 #[u, v] w fun e w' => e = .returned (.bool (decide (((freshP x.p 255).map fun j : Nat => (j : Int)) = ((freshP y.p 255).map fun j : Nat => (j : Int))))) ∧ Keeps w w') := Lib.hid (fun u v w h1 h2 => eqInts_any u v _ _ w h1 h2)
  have hkk := ((Keeps.refl w).alloc (.cells x.arr 39)).alloc (.cells y.arr 39)
  have HFA : Hid (∀ w', Keeps ((w.alloc (.cells x.arr 39)).alloc (.cells y.arr 39)) w' → Calls Try.prog 67 #[x.val] w' fun e w'' => ∃ v, e = .returned v ∧ Ints w'' v ((freshP x.p 255).map fun j : Nat => (j : Int)) ∧ Keeps w' w'') := Lib.hid (fun w' h => freshl_any x w' (hx.keeps (hkk.trans h)))
  have HFB : Hid (∀ w', Keeps ((w.alloc (.cells x.arr 39)).alloc (.cells y.arr 39)) w' → Calls Try.prog 67 #[y.val] w' fun e w'' => ∃ v, e = .returned v ∧ Ints w'' v ((freshP y.p 255).map fun j : Nat => (j : Int)) ∧ Keeps w' w'') := Lib.hid (fun w' h => freshl_any y w' (hy.keeps (hkk.trans h)))
  have HEQ : Hid (∀ w', Keeps ((w.alloc (.cells x.arr 39)).alloc (.cells y.arr 39)) w' → Calls Try.prog 23 #[.slice x.o.a x.o.len x.o.cap, .slice y.o.a y.o.len y.o.cap] w' fun e w'' => e = .returned (.bool (decide (x.p.o = y.p.o))) ∧ w'' = w') := Lib.hid (fun w' h => bytesEq_any x.o y.o w' (hx.o.keeps (hkk.trans h)) (hy.o.keeps (hkk.trans h)))
  have HEM : Hid (∀ w', Keeps ((w.alloc (.cells x.arr 39)).alloc (.cells y.arr 39)) w' → Calls Try.prog 68 #[.slice x.ia x.n x.cap, .slice y.ia y.n y.cap, .func (.func 69) #[] #[]] w' fun e w'' => e = .returned (.bool (decide (x.p.ms = y.p.ms))) ∧ Keeps w' w'') := Lib.hid (fun w' h => eqMsgs_any _ _ _ _ _ _ _ _ w' (hx.m.keeps (hkk.trans h)) (hy.m.keeps (hkk.trans h)))
  clear hx hy hkk
  obtain ⟨R, hR⟩ : ∃ R, R = sameC x.p y.p := ⟨_, rfl⟩
  obtain ⟨FA, hFA⟩ : ∃ FA, FA = (freshP x.p 255).map fun j : Nat => (j : Int) := ⟨_, rfl⟩
  obtain ⟨FB, hFB⟩ : ∃ FB, FB = (freshP y.p 255).map fun j : Nat => (j : Int) := ⟨_, rfl⟩
  obtain ⟨OQ, hOQ⟩ : ∃ OQ, OQ = decide (x.p.o = y.p.o) := ⟨_, rfl⟩
  obtain ⟨MQ, hMQ⟩ : ∃ MQ, MQ = decide (x.p.ms = y.p.ms) := ⟨_, rfl⟩
  rw [← hFA, ← hFB] at HEI
  rw [← hFA] at HFA
  rw [← hFB] at HFB
  rw [← hOQ] at HEQ
  rw [← hMQ] at HEM
  rw [← hR, ← hFA, ← hFB, ← hOQ, ← hMQ] at HR
  rw [← hR]
  clear hFA hFB hOQ hMQ hR
  obtain ⟨FQ, hFQ⟩ : ∃ FQ, FQ = decide (FA = FB) := ⟨_, rfl⟩
  rw [← hFQ] at HR HEI
  clear hFQ
  obtain ⟨xid, ⟨xoa, xolen, xocap, xol⟩, xia, xn, xcap, xms, xlife, xwant⟩ := x
  obtain ⟨yid, ⟨yoa, yolen, yocap, yol⟩, yia, yn, ycap, yms, ylife, ywant⟩ := y
  replace HR : Hid (R = (decide (xid = yid) && (decide (xlife = ylife) && (decide (xwant = ywant) && (OQ && (FQ && MQ)))))) := HR
  have HK := Lib.hid (((Keeps.refl w).alloc (.cells #[.int .i64 xid, .slice xoa xolen xocap, .slice xia xn xcap, .int .i64 xlife, .int .i64 xwant] 39)).alloc (.cells #[.int .i64 yid, .slice yoa yolen yocap, .slice yia yn ycap, .int .i64 ylife, .int .i64 ywant] 39))
  have HB := Lib.hid ((Box.new w 39 #[.int .i64 xid, .slice xoa xolen xocap, .slice xia xn xcap, .int .i64 xlife, .int .i64 xwant]).next (.cells #[.int .i64 yid, .slice yoa yolen yocap, .slice yia yn ycap, .int .i64 ylife, .int .i64 ywant] 39))
  have hz := Box.new (w.alloc (.cells #[.int .i64 xid, .slice xoa xolen xocap, .slice xia xn xcap, .int .i64 xlife, .int .i64 xwant] 39)) 39 #[.int .i64 yid, .slice yoa yolen yocap, .slice yia yn ycap, .int .i64 ylife, .int .i64 ywant]
  rw [World.size_alloc] at hz
  have HZ := Lib.hid hz
  clear hz
  show Calls Try.prog 39 #[.agg #[.int .i64 xid, .slice xoa xolen xocap, .slice xia xn xcap, .int .i64 xlife, .int .i64 xwant], .agg #[.int .i64 yid, .slice yoa yolen yocap, .slice yia yn ycap, .int .i64 ylife, .int .i64 ywant]] w _
  by_cases t0 : xid = yid
  case neg =>
    have e0 : (xid == yid) = false := by rw [beq_eq_false_iff_ne]; exact t0
    rw [decide_eq_false t0] at HR
    clear t0 HEQ HFA HFB HEI HEM
    go_enter Try.func39, Try.ntmps39
    go_wp2_with fail
    go_quiet (fail)
    go_wp2_with fail
    go_ret
    exact ⟨by rw [HR.out]; simp, HK.out.drewN _⟩
  rw [decide_eq_true t0] at HR
  subst t0
  have e0 : (xid == xid) = true := by simp
  by_cases t1 : xlife = ylife
  case neg =>
    have e1 : (xlife == ylife) = false := by rw [beq_eq_false_iff_ne]; exact t1
    rw [decide_eq_false t1] at HR
    clear t1 HEQ HFA HFB HEI HEM
    go_enter Try.func39, Try.ntmps39
    go_wp2_with fail
    go_quiet (fail)
    go_wp2_with fail
    go_ret
    exact ⟨by rw [HR.out]; simp, HK.out.drewN _⟩
  rw [decide_eq_true t1] at HR
  subst t1
  have e1 : (xlife == xlife) = true := by simp
  by_cases t2 : xwant = ywant
  case neg =>
    have e2 : (xwant == ywant) = false := by rw [beq_eq_false_iff_ne]; exact t2
    rw [decide_eq_false t2] at HR
    clear t2 HEQ HFA HFB HEI HEM
    go_enter Try.func39, Try.ntmps39
    go_wp2_with fail
    go_quiet (fail)
    go_wp2_with fail
    go_ret
    exact ⟨by rw [HR.out]; simp, HK.out.drewN _⟩
  rw [decide_eq_true t2] at HR
  subst t2
  have e2 : (xwant == xwant) = true := by simp
  cases OQ
  · clear HFA HFB HEI HEM
    replace HEQ : Hid (∀ w', Keeps ((w.alloc (.cells #[.int .i64 xid, .slice xoa xolen xocap, .slice xia xn xcap, .int .i64 xlife, .int .i64 xwant] 39)).alloc (.cells #[.int .i64 xid, .slice yoa yolen yocap, .slice yia yn ycap, .int .i64 xlife, .int .i64 xwant] 39)) w' → Calls Try.prog 23 #[.slice xoa xolen xocap, .slice yoa yolen yocap] w' fun e w'' => e = .returned (.bool false) ∧ w'' = w') := HEQ
    go_enter Try.func39, Try.ntmps39
    go_wp2_with fail
    go_quiet ((go_at_call 23; exact Calls.quiet_of_same (HEQ.out _ ((Keeps.refl _).drewN _))))
    go_wp2_with fail
    go_ret
    exact ⟨by rw [HR.out]; rfl, HK.out.drewN _⟩
  go_enter Try.func39, Try.ntmps39
  go_wp2_with fail
  obtain ⟨W, hW⟩ : ∃ W, W = (w.alloc (.cells #[.int .i64 xid, .slice xoa xolen xocap, .slice xia xn xcap, .int .i64 xlife, .int .i64 xwant] 39)).alloc (.cells #[.int .i64 xid, .slice yoa yolen yocap, .slice yia yn ycap, .int .i64 xlife, .int .i64 xwant] 39) := ⟨_, rfl⟩
  replace HEQ : Hid (∀ w', Keeps W w' → Calls Try.prog 23 #[.slice xoa xolen xocap, .slice yoa yolen yocap] w' fun e w'' => e = .returned (.bool true) ∧ w'' = w') := Lib.hid (by rw [hW]; exact HEQ.out)
  replace HFA : Hid (∀ w', Keeps W w' → Calls Try.prog 67 #[.agg #[.int .i64 xid, .slice xoa xolen xocap, .slice xia xn xcap, .int .i64 xlife, .int .i64 xwant]] w' fun e w'' => ∃ v, e = .returned v ∧ Ints w'' v FA ∧ Keeps w' w'') := Lib.hid (by rw [hW]; exact HFA.out)
  replace HFB : Hid (∀ w', Keeps W w' → Calls Try.prog 67 #[.agg #[.int .i64 xid, .slice yoa yolen yocap, .slice yia yn ycap, .int .i64 xlife, .int .i64 xwant]] w' fun e w'' => ∃ v, e = .returned v ∧ Ints w'' v FB ∧ Keeps w' w'') := Lib.hid (by rw [hW]; exact HFB.out)
  replace HEM : Hid (∀ w', Keeps W w' → Calls Try.prog 68 #[.slice xia xn xcap, .slice yia yn ycap, .func (.func 69) #[] #[]] w' fun e w'' => e = .returned (.bool MQ) ∧ Keeps w' w'') := Lib.hid (by rw [hW]; exact HEM.out)
  rw [← hW] at HK HB HZ ⊢
  clear hW
  have fhb0 : W.cell? ⟨w.heap.size, 0, none⟩ = some (.int .i64 xid) := HB.out.cell 0 _ rfl
  have fhb1 : W.cell? ⟨w.heap.size, 1, none⟩ = some (.slice xoa xolen xocap) := HB.out.cell 1 _ rfl
  have fhb2 : W.cell? ⟨w.heap.size, 2, none⟩ = some (.slice xia xn xcap) := HB.out.cell 2 _ rfl
  have fhb3 : W.cell? ⟨w.heap.size, 3, none⟩ = some (.int .i64 xlife) := HB.out.cell 3 _ rfl
  have fhb4 : W.cell? ⟨w.heap.size, 4, none⟩ = some (.int .i64 xwant) := HB.out.cell 4 _ rfl
  have fhz0 : W.cell? ⟨w.heap.size + 1, 0, none⟩ = some (.int .i64 xid) := HZ.out.cell 0 _ rfl
  have fhz1 : W.cell? ⟨w.heap.size + 1, 1, none⟩ = some (.slice yoa yolen yocap) := HZ.out.cell 1 _ rfl
  have fhz2 : W.cell? ⟨w.heap.size + 1, 2, none⟩ = some (.slice yia yn ycap) := HZ.out.cell 2 _ rfl
  have fhz3 : W.cell? ⟨w.heap.size + 1, 3, none⟩ = some (.int .i64 xlife) := HZ.out.cell 3 _ rfl
  have fhz4 : W.cell? ⟨w.heap.size + 1, 4, none⟩ = some (.int .i64 xwant) := HZ.out.cell 4 _ rfl
  have HKN := Lib.hid (Keeps.refl W)
  cases FQ
  · clear HEM
    have HRM : Hid (R = false) := Lib.hid (by rw [HR.out]; simp)
    obtain rfl : R = false := HRM.out
    refine wp_region_held_drew (S := (fun w' => w'.cell? ⟨w.heap.size, 0, none⟩ = some (.int .i64 xid) ∧ w'.cell? ⟨w.heap.size, 1, none⟩ = some (.slice xoa xolen xocap) ∧ w'.cell? ⟨w.heap.size, 2, none⟩ = some (.slice xia xn xcap) ∧ w'.cell? ⟨w.heap.size, 3, none⟩ = some (.int .i64 xlife) ∧ w'.cell? ⟨w.heap.size, 4, none⟩ = some (.int .i64 xwant) ∧ w'.cell? ⟨w.heap.size + 1, 0, none⟩ = some (.int .i64 xid) ∧ w'.cell? ⟨w.heap.size + 1, 1, none⟩ = some (.slice yoa yolen yocap) ∧ w'.cell? ⟨w.heap.size + 1, 2, none⟩ = some (.slice yia yn ycap) ∧ w'.cell? ⟨w.heap.size + 1, 3, none⟩ = some (.int .i64 xlife) ∧ w'.cell? ⟨w.heap.size + 1, 4, none⟩ = some (.int .i64 xwant))) (by kernel_rfl) ?_ (fun hHeld => ?_)
    · ((try dsimp only); (refine ⟨Keeps.later (a := W) ?_ fhb0, Keeps.later (a := W) ?_ fhb1, Keeps.later (a := W) ?_ fhb2, Keeps.later (a := W) ?_ fhb3, Keeps.later (a := W) ?_ fhb4, Keeps.later (a := W) ?_ fhz0, Keeps.later (a := W) ?_ fhz1, Keeps.later (a := W) ?_ fhz2, Keeps.later (a := W) ?_ fhz3, Keeps.later (a := W) ?_ fhz4⟩ <;> repeat (first | with_reducible exact HKN.out | with_reducible refine Keeps.alloc ?_ _ | with_reducible refine Keeps.drew ?_)))
    refine take_op (i := 0) (oi := ?op0) ?hi0 ?hk0
    case hi0 => simp only [List.getElem?_toArray, List.getElem?_cons_zero, List.getElem?_cons_succ]; rfl
    refine ⟨by kernel_rfl, by kernel_rfl, by kernel_rfl, ?va0, fun _ _ _ h => h, Or.inl ⟨by rfl, ?hy0⟩, by assumption, ?re0⟩
    case hy0 => (intro w hSw; (try dsimp only at hSw); go_simp) <;> with_reducible rfl
    try simp only [Act.put, List.setIfInBounds_toArray, List.set_cons_zero, List.set_cons_succ]
    refine take_op (i := 1) (oi := ?op1) ?hi1 ?hk1
    case hi1 => simp only [List.getElem?_toArray, List.getElem?_cons_zero, List.getElem?_cons_succ]; rfl
    refine ⟨by kernel_rfl, by kernel_rfl, by kernel_rfl, ?va1, fun _ _ _ h => h, Or.inl ⟨by rfl, ?hy1⟩, by assumption, ?re1⟩
    case hy1 => (intro w hSw; (try dsimp only at hSw); go_simp) <;> with_reducible rfl
    try simp only [Act.put, List.setIfInBounds_toArray, List.set_cons_zero, List.set_cons_succ]
    refine take_op (i := 2) (oi := ?op2) ?hi2 ?hk2
    case hi2 => simp only [List.getElem?_toArray, List.getElem?_cons_zero, List.getElem?_cons_succ]; rfl
    refine ⟨by kernel_rfl, by kernel_rfl, by kernel_rfl, ?va2, fun _ _ _ h => h, Or.inl ⟨by rfl, ?hy2⟩, by assumption, ?re2⟩
    case hy2 => (intro w hSw; (try dsimp only at hSw); go_simp) <;> with_reducible rfl
    try simp only [Act.put, List.setIfInBounds_toArray, List.set_cons_zero, List.set_cons_succ]
    refine take_op (i := 3) (oi := ?op3) ?hi3 ?hk3
    case hi3 => simp only [List.getElem?_toArray, List.getElem?_cons_zero, List.getElem?_cons_succ]; rfl
    refine ⟨by kernel_rfl, by kernel_rfl, by kernel_rfl, ?va3, fun _ _ _ h => h, Or.inl ⟨by rfl, ?hy3⟩, by assumption, ?re3⟩
    case hy3 => (intro w hSw; (try dsimp only at hSw); go_simp) <;> with_reducible rfl
    try simp only [Act.put, List.setIfInBounds_toArray, List.set_cons_zero, List.set_cons_succ]
    refine take_op (i := 4) (oi := ?op4) ?hi4 ?hk4
    case hi4 => simp only [List.getElem?_toArray, List.getElem?_cons_zero, List.getElem?_cons_succ]; rfl
    refine ⟨by kernel_rfl, by kernel_rfl, by kernel_rfl, ?va4, fun _ _ _ h => h, Or.inl ⟨by rfl, ?hy4⟩, by assumption, ?re4⟩
    case hy4 => (intro w hSw; (try dsimp only at hSw); go_simp) <;> with_reducible rfl
    try simp only [Act.put, List.setIfInBounds_toArray, List.set_cons_zero, List.set_cons_succ]
    refine take_op (i := 5) (oi := ?op5) ?hi5 ?hk5
    case hi5 => simp only [List.getElem?_toArray, List.getElem?_cons_zero, List.getElem?_cons_succ]; rfl
    refine ⟨by kernel_rfl, by kernel_rfl, by kernel_rfl, ?va5, fun _ _ _ h => h, Or.inl ⟨by rfl, ?hy5⟩, by assumption, ?re5⟩
    case hy5 => (intro w hSw; (try dsimp only at hSw); go_simp) <;> with_reducible rfl
    try simp only [Act.put, List.setIfInBounds_toArray, List.set_cons_zero, List.set_cons_succ]
    refine take_op (i := 6) (oi := ?op6) ?hi6 ?hk6
    case hi6 => simp only [List.getElem?_toArray, List.getElem?_cons_zero, List.getElem?_cons_succ]; rfl
    refine ⟨by kernel_rfl, by kernel_rfl, by kernel_rfl, ?va6, fun _ _ _ h => h, Or.inl ⟨by rfl, ?hy6⟩, by assumption, ?re6⟩
    case hy6 => (intro w hSw; (try dsimp only at hSw); go_simp) <;> with_reducible rfl
    try simp only [Act.put, List.setIfInBounds_toArray, List.set_cons_zero, List.set_cons_succ]
    refine take_op (i := 7) (oi := ?op7) ?hi7 ?hk7
    case hi7 => simp only [List.getElem?_toArray, List.getElem?_cons_zero, List.getElem?_cons_succ]; rfl
    refine ⟨by kernel_rfl, by kernel_rfl, by kernel_rfl, ?va7, fun _ _ _ h => h, Or.inl ⟨by rfl, ?hy7⟩, by assumption, ?re7⟩
    case hy7 => (intro w hSw; (try dsimp only at hSw); go_simp) <;> with_reducible rfl
    try simp only [Act.put, List.setIfInBounds_toArray, List.set_cons_zero, List.set_cons_succ]
    refine take_op (i := 8) (oi := ?op8) ?hi8 ?hk8
    case hi8 => simp only [List.getElem?_toArray, List.getElem?_cons_zero, List.getElem?_cons_succ]; rfl
    refine ⟨by kernel_rfl, by kernel_rfl, by kernel_rfl, ?va8, fun _ _ _ h => h, Or.inl ⟨by rfl, ?hy8⟩, by assumption, ?re8⟩
    case hy8 => (intro w hSw; (try dsimp only at hSw); go_simp) <;> with_reducible rfl
    try simp only [Act.put, List.setIfInBounds_toArray, List.set_cons_zero, List.set_cons_succ]
    refine take_op (i := 9) (oi := ?op9) ?hi9 ?hk9
    case hi9 => simp only [List.getElem?_toArray, List.getElem?_cons_zero, List.getElem?_cons_succ]; rfl
    refine ⟨by kernel_rfl, by kernel_rfl, by kernel_rfl, ?va9, fun _ _ _ h => h, Or.inl ⟨by rfl, ?hy9⟩, by assumption, ?re9⟩
    case hy9 => (intro w hSw; (try dsimp only at hSw); go_simp) <;> with_reducible rfl
    try simp only [Act.put, List.setIfInBounds_toArray, List.set_cons_zero, List.set_cons_succ]
    refine take_op (i := 10) (oi := ?op10) ?hi10 ?hk10
    case hi10 => simp only [List.getElem?_toArray, List.getElem?_cons_zero, List.getElem?_cons_succ]; rfl
    refine ⟨by kernel_rfl, by kernel_rfl, by kernel_rfl, ?va10, fun _ _ _ h => h, Or.inl ⟨by rfl, ?hy10⟩, by assumption, ?re10⟩
    case hy10 => (intro w hSw; (try dsimp only at hSw); go_simp) <;> with_reducible rfl
    try simp only [Act.put, List.setIfInBounds_toArray, List.set_cons_zero, List.set_cons_succ]
    refine take_op (i := 11) (oi := ?op11) ?hi11 ?hk11
    case hi11 => simp only [List.getElem?_toArray, List.getElem?_cons_zero, List.getElem?_cons_succ]; rfl
    refine ⟨by kernel_rfl, by kernel_rfl, by kernel_rfl, ?va11, fun _ _ _ h => h, Or.inl ⟨by rfl, ?hy11⟩, by assumption, ?re11⟩
    case hy11 => (intro w hSw; (try dsimp only at hSw); go_simp) <;> with_reducible rfl
    try simp only [Act.put, List.setIfInBounds_toArray, List.set_cons_zero, List.set_cons_succ]
    refine take_op (i := 12) (oi := ?op12) ?hi12 ?hk12
    case hi12 => simp only [List.getElem?_toArray, List.getElem?_cons_zero, List.getElem?_cons_succ]; rfl
    refine ⟨by kernel_rfl, by kernel_rfl, by kernel_rfl, ?va12, fun _ _ _ h => h, Or.inl ⟨by rfl, ?hy12⟩, by assumption, ?re12⟩
    case hy12 => (intro w hSw; (try dsimp only at hSw); go_simp) <;> with_reducible rfl
    try simp only [Act.put, List.setIfInBounds_toArray, List.set_cons_zero, List.set_cons_succ]
    refine take_op (i := 13) (oi := ?op13) ?hi13 ?hk13
    case hi13 => simp only [List.getElem?_toArray, List.getElem?_cons_zero, List.getElem?_cons_succ]; rfl
    refine ⟨by kernel_rfl, by kernel_rfl, by kernel_rfl, ?va13, fun _ _ _ h => h, Or.inl ⟨by rfl, ?hy13⟩, by assumption, ?re13⟩
    case hy13 => (intro w hSw; (try dsimp only at hSw); go_simp) <;> with_reducible rfl
    try simp only [Act.put, List.setIfInBounds_toArray, List.set_cons_zero, List.set_cons_succ]
    refine take_op (i := 14) (oi := ?op14) ?hi14 ?hk14
    case hi14 => simp only [List.getElem?_toArray, List.getElem?_cons_zero, List.getElem?_cons_succ]; rfl
    refine ⟨by kernel_rfl, by kernel_rfl, by kernel_rfl, ?va14, fun _ _ _ h => h, Or.inl ⟨by rfl, ?hy14⟩, by assumption, ?re14⟩
    case hy14 => (intro w hSw; (try dsimp only at hSw); go_simp) <;> with_reducible rfl
    try simp only [Act.put, List.setIfInBounds_toArray, List.set_cons_zero, List.set_cons_succ]
    refine take_op (i := 15) (oi := ?op15) ?hi15 ?hk15
    case hi15 => simp only [List.getElem?_toArray, List.getElem?_cons_zero, List.getElem?_cons_succ]; rfl
    refine ⟨by kernel_rfl, by kernel_rfl, by kernel_rfl, ?va15, fun _ _ _ h => h, Or.inl ⟨by rfl, ?hy15⟩, by assumption, ?re15⟩
    case hy15 => (intro w hSw; (try dsimp only at hSw); go_simp) <;> with_reducible rfl
    try simp only [Act.put, List.setIfInBounds_toArray, List.set_cons_zero, List.set_cons_succ]
    refine take_op (i := 16) (oi := ?op16) ?hi16 ?hk16
    case hi16 => simp only [List.getElem?_toArray, List.getElem?_cons_zero, List.getElem?_cons_succ]; rfl
    refine ⟨by kernel_rfl, by kernel_rfl, by kernel_rfl, ?va16, fun _ _ _ h => h, Or.inl ⟨by rfl, ?hy16⟩, by assumption, ?re16⟩
    case hy16 => (intro w hSw; (try dsimp only at hSw); go_simp) <;> with_reducible rfl
    try simp only [Act.put, List.setIfInBounds_toArray, List.set_cons_zero, List.set_cons_succ]
    refine take_op (i := 17) (oi := ?op17) ?hi17 ?hk17
    case hi17 => simp only [List.getElem?_toArray, List.getElem?_cons_zero, List.getElem?_cons_succ]; rfl
    refine ⟨by kernel_rfl, by kernel_rfl, by kernel_rfl, ?va17, fun _ _ _ h => h, Or.inl ⟨by rfl, ?hy17⟩, by assumption, ?re17⟩
    case hy17 => (intro w hSw; (try dsimp only at hSw); go_simp) <;> with_reducible rfl
    try simp only [Act.put, List.setIfInBounds_toArray, List.set_cons_zero, List.set_cons_succ]
    refine take_op (i := 18) (oi := ?op18) ?hi18 ?hk18
    case hi18 => simp only [List.getElem?_toArray, List.getElem?_cons_zero, List.getElem?_cons_succ]; rfl
    refine ⟨by kernel_rfl, by kernel_rfl, by kernel_rfl, ?va18, fun _ _ _ h => h, Or.inl ⟨by rfl, ?hy18⟩, by assumption, ?re18⟩
    case hy18 => (intro w hSw; (try dsimp only at hSw); go_simp) <;> with_reducible rfl
    try simp only [Act.put, List.setIfInBounds_toArray, List.set_cons_zero, List.set_cons_succ]
    refine take_op (i := 19) (oi := ?op19) ?hi19 ?hk19
    case hi19 => simp only [List.getElem?_toArray, List.getElem?_cons_zero, List.getElem?_cons_succ]; rfl
    refine ⟨by kernel_rfl, by kernel_rfl, by kernel_rfl, ?va19, fun _ _ _ h => h, Or.inl ⟨by rfl, ?hy19⟩, by assumption, ?re19⟩
    case hy19 => (intro w hSw; (try dsimp only at hSw); go_simp) <;> with_reducible rfl
    try simp only [Act.put, List.setIfInBounds_toArray, List.set_cons_zero, List.set_cons_succ]
    refine take_op (i := 20) (oi := ?op20) ?hi20 ?hk20
    case hi20 => simp only [List.getElem?_toArray, List.getElem?_cons_zero, List.getElem?_cons_succ]; rfl
    refine ⟨by kernel_rfl, by kernel_rfl, by kernel_rfl, ?va20, fun _ _ _ h => h, Or.inl ⟨by rfl, ?hy20⟩, by assumption, ?re20⟩
    case hy20 => (intro w hSw; (try dsimp only at hSw); go_simp) <;> with_reducible rfl
    try simp only [Act.put, List.setIfInBounds_toArray, List.set_cons_zero, List.set_cons_succ]
    refine take_op (i := 21) (oi := ?op21) ?hi21 ?hk21
    case hi21 => simp only [List.getElem?_toArray, List.getElem?_cons_zero, List.getElem?_cons_succ]; rfl
    refine ⟨by kernel_rfl, by kernel_rfl, by kernel_rfl, ?va21, fun _ _ _ h => h, Or.inl ⟨by rfl, ?hy21⟩, by assumption, ?re21⟩
    case hy21 => (intro w hSw; (try dsimp only at hSw); go_simp) <;> with_reducible rfl
    try simp only [Act.put, List.setIfInBounds_toArray, List.set_cons_zero, List.set_cons_succ]
    refine take_op (i := 22) (oi := ?op22) ?hi22 ?hk22
    case hi22 => simp only [List.getElem?_toArray, List.getElem?_cons_zero, List.getElem?_cons_succ]; rfl
    refine ⟨by kernel_rfl, by kernel_rfl, by kernel_rfl, ?va22, fun _ _ _ h => h, Or.inl ⟨by rfl, ?hy22⟩, by assumption, ?re22⟩
    case hy22 => (intro w hSw; (try dsimp only at hSw); go_simp) <;> with_reducible rfl
    try simp only [Act.put, List.setIfInBounds_toArray, List.set_cons_zero, List.set_cons_succ]
    refine take_op (i := 23) (oi := ?op23) ?hi23 ?hk23
    case hi23 => simp only [List.getElem?_toArray, List.getElem?_cons_zero, List.getElem?_cons_succ]; rfl
    refine ⟨by kernel_rfl, by kernel_rfl, by kernel_rfl, ?va23, fun _ _ _ h => h, Or.inl ⟨by rfl, ?hy23⟩, by assumption, ?re23⟩
    case hy23 => (intro w hSw; (try dsimp only at hSw); go_simp) <;> with_reducible rfl
    try simp only [Act.put, List.setIfInBounds_toArray, List.set_cons_zero, List.set_cons_succ]
    refine wpAnyH_ready (rs := [24]) (by kernel_rfl) (by simp) ?_
    refine ready_op (o := ?op24) ?hi24 ?hk24
    case hi24 => simp only [List.getElem?_toArray, List.getElem?_cons_zero, List.getElem?_cons_succ]; rfl
    intro K hK
    go_simp
    (go_at_call 23; with_reducible refine (HEQ.out _ ?_).mono ?_; (repeat (first | with_reducible exact HKN.out | with_reducible refine Keeps.alloc ?_ _ | with_reducible refine Keeps.drew ?_)); rintro e u ⟨rfl, rfl⟩)
    go_wp2_with fail
    refine hK.out _ _ ?_ (fun hHeld => ?_)
    · ((try dsimp only); (refine ⟨Keeps.later (a := W) ?_ fhb0, Keeps.later (a := W) ?_ fhb1, Keeps.later (a := W) ?_ fhb2, Keeps.later (a := W) ?_ fhb3, Keeps.later (a := W) ?_ fhb4, Keeps.later (a := W) ?_ fhz0, Keeps.later (a := W) ?_ fhz1, Keeps.later (a := W) ?_ fhz2, Keeps.later (a := W) ?_ fhz3, Keeps.later (a := W) ?_ fhz4⟩ <;> repeat (first | with_reducible exact HKN.out | with_reducible refine Keeps.alloc ?_ _ | with_reducible refine Keeps.drew ?_)))
    clear hK K
    try simp only [Act.put, List.setIfInBounds_toArray, List.set_cons_zero, List.set_cons_succ]
    refine take_op (i := 25) (oi := ?op25) ?hi25 ?hk25
    case hi25 => simp only [List.getElem?_toArray, List.getElem?_cons_zero, List.getElem?_cons_succ]; rfl
    refine ⟨by kernel_rfl, by kernel_rfl, by kernel_rfl, ?va25, fun _ _ _ h => h, Or.inl ⟨by rfl, ?hy25⟩, by assumption, ?re25⟩
    case hy25 => (intro w hSw; (try dsimp only at hSw); go_simp) <;> with_reducible rfl
    try simp only [Act.put, List.setIfInBounds_toArray, List.set_cons_zero, List.set_cons_succ]
    refine take_op (i := 26) (oi := ?op26) ?hi26 ?hk26
    case hi26 => simp only [List.getElem?_toArray, List.getElem?_cons_zero, List.getElem?_cons_succ]; rfl
    refine ⟨by kernel_rfl, by kernel_rfl, by kernel_rfl, ?va26, fun _ _ _ h => h, Or.inl ⟨by rfl, ?hy26⟩, by assumption, ?re26⟩
    case hy26 => (intro w hSw; (try dsimp only at hSw); go_simp) <;> with_reducible rfl
    try simp only [Act.put, List.setIfInBounds_toArray, List.set_cons_zero, List.set_cons_succ]
    refine take_op (i := 27) (oi := ?op27) ?hi27 ?hk27
    case hi27 => simp only [List.getElem?_toArray, List.getElem?_cons_zero, List.getElem?_cons_succ]; rfl
    refine ⟨by kernel_rfl, by kernel_rfl, by kernel_rfl, ?va27, fun _ _ _ h => h, Or.inl ⟨by rfl, ?hy27⟩, by assumption, ?re27⟩
    case hy27 => (intro w hSw; (try dsimp only at hSw); go_simp) <;> with_reducible rfl
    try simp only [Act.put, List.setIfInBounds_toArray, List.set_cons_zero, List.set_cons_succ]
    refine take_op (i := 29) (oi := ?op29) ?hi29 ?hk29
    case hi29 => simp only [List.getElem?_toArray, List.getElem?_cons_zero, List.getElem?_cons_succ]; rfl
    refine ⟨by kernel_rfl, by kernel_rfl, by kernel_rfl, ?va29, fun _ _ _ h => h, Or.inl ⟨by rfl, ?hy29⟩, by assumption, ?re29⟩
    case hy29 => (intro w hSw; (try dsimp only at hSw); go_simp) <;> with_reducible rfl
    try simp only [Act.put, List.setIfInBounds_toArray, List.set_cons_zero, List.set_cons_succ]
    refine wpAnyH_ready (rs := [28]) (by kernel_rfl) (by simp) ?_
    refine ready_op (o := ?op28) ?hi28 ?hk28
    case hi28 => simp only [List.getElem?_toArray, List.getElem?_cons_zero, List.getElem?_cons_succ]; rfl
    intro K hK
    go_simp
    (go_at_call 67; with_reducible refine (HFA.out _ ?_).mono ?_; (repeat (first | with_reducible exact HKN.out | with_reducible refine Keeps.alloc ?_ _ | with_reducible refine Keeps.drew ?_)); rintro e u ⟨v1, rfl, hv1, hk⟩; (try (have HVM := Lib.hid (Ints.keeps HV2.out (Keeps.trans (show Keeps _ _ by repeat (first | with_reducible exact Keeps.refl _ | with_reducible refine Keeps.alloc ?_ _ | with_reducible refine Keeps.drew ?_)) hk)); clear HV2; have HV2 := HVM; clear HVM)); have HV1 := Lib.hid hv1; clear hv1; have HKM := Lib.hid (Keeps.trans (show Keeps W _ by repeat (first | with_reducible exact HKN.out | with_reducible refine Keeps.alloc ?_ _ | with_reducible refine Keeps.drew ?_)) hk); clear hk HKN; have HKN := HKM; clear HKM)
    go_wp2_with fail
    refine hK.out _ _ ?_ (fun hHeld => ?_)
    · ((try dsimp only); (refine ⟨Keeps.later (a := W) ?_ fhb0, Keeps.later (a := W) ?_ fhb1, Keeps.later (a := W) ?_ fhb2, Keeps.later (a := W) ?_ fhb3, Keeps.later (a := W) ?_ fhb4, Keeps.later (a := W) ?_ fhz0, Keeps.later (a := W) ?_ fhz1, Keeps.later (a := W) ?_ fhz2, Keeps.later (a := W) ?_ fhz3, Keeps.later (a := W) ?_ fhz4⟩ <;> repeat (first | with_reducible exact HKN.out | with_reducible refine Keeps.alloc ?_ _ | with_reducible refine Keeps.drew ?_)))
    clear hK K
    try simp only [Act.put, List.setIfInBounds_toArray, List.set_cons_zero, List.set_cons_succ]
    refine wpAnyH_ready (rs := [30]) (by kernel_rfl) (by simp) ?_
    refine ready_op (o := ?op30) ?hi30 ?hk30
    case hi30 => simp only [List.getElem?_toArray, List.getElem?_cons_zero, List.getElem?_cons_succ]; rfl
    intro K hK
    go_simp
    (go_at_call 67; with_reducible refine (HFB.out _ ?_).mono ?_; (repeat (first | with_reducible exact HKN.out | with_reducible refine Keeps.alloc ?_ _ | with_reducible refine Keeps.drew ?_)); rintro e u ⟨v2, rfl, hv2, hk⟩; (try (have HVM := Lib.hid (Ints.keeps HV1.out (Keeps.trans (show Keeps _ _ by repeat (first | with_reducible exact Keeps.refl _ | with_reducible refine Keeps.alloc ?_ _ | with_reducible refine Keeps.drew ?_)) hk)); clear HV1; have HV1 := HVM; clear HVM)); have HV2 := Lib.hid hv2; clear hv2; have HKM := Lib.hid (Keeps.trans (show Keeps W _ by repeat (first | with_reducible exact HKN.out | with_reducible refine Keeps.alloc ?_ _ | with_reducible refine Keeps.drew ?_)) hk); clear hk HKN; have HKN := HKM; clear HKM)
    go_wp2_with fail
    refine hK.out _ _ ?_ (fun hHeld => ?_)
    · ((try dsimp only); (refine ⟨Keeps.later (a := W) ?_ fhb0, Keeps.later (a := W) ?_ fhb1, Keeps.later (a := W) ?_ fhb2, Keeps.later (a := W) ?_ fhb3, Keeps.later (a := W) ?_ fhb4, Keeps.later (a := W) ?_ fhz0, Keeps.later (a := W) ?_ fhz1, Keeps.later (a := W) ?_ fhz2, Keeps.later (a := W) ?_ fhz3, Keeps.later (a := W) ?_ fhz4⟩ <;> repeat (first | with_reducible exact HKN.out | with_reducible refine Keeps.alloc ?_ _ | with_reducible refine Keeps.drew ?_)))
    clear hK K
    try simp only [Act.put, List.setIfInBounds_toArray, List.set_cons_zero, List.set_cons_succ]
    refine wpAnyH_ready (rs := [31]) (by kernel_rfl) (by simp) ?_
    refine ready_op (o := ?op31) ?hi31 ?hk31
    case hi31 => simp only [List.getElem?_toArray, List.getElem?_cons_zero, List.getElem?_cons_succ]; rfl
    intro K hK
    go_simp
    (go_at_call 34; with_reducible refine (HEI.out v1 v2 _ (Ints.keeps HV1.out ?_) (Ints.keeps HV2.out ?_)).mono ?_; (repeat (first | with_reducible exact Keeps.refl _ | with_reducible refine Keeps.alloc ?_ _ | with_reducible refine Keeps.drew ?_)); (repeat (first | with_reducible exact Keeps.refl _ | with_reducible refine Keeps.alloc ?_ _ | with_reducible refine Keeps.drew ?_)); rintro e u ⟨rfl, hk⟩; have HKM := Lib.hid (Keeps.trans (show Keeps W _ by repeat (first | with_reducible exact HKN.out | with_reducible refine Keeps.alloc ?_ _ | with_reducible refine Keeps.drew ?_)) hk); clear hk HKN; have HKN := HKM; clear HKM)
    go_wp2_with fail
    refine hK.out _ _ ?_ (fun hHeld => ?_)
    · ((try dsimp only); (refine ⟨Keeps.later (a := W) ?_ fhb0, Keeps.later (a := W) ?_ fhb1, Keeps.later (a := W) ?_ fhb2, Keeps.later (a := W) ?_ fhb3, Keeps.later (a := W) ?_ fhb4, Keeps.later (a := W) ?_ fhz0, Keeps.later (a := W) ?_ fhz1, Keeps.later (a := W) ?_ fhz2, Keeps.later (a := W) ?_ fhz3, Keeps.later (a := W) ?_ fhz4⟩ <;> repeat (first | with_reducible exact HKN.out | with_reducible refine Keeps.alloc ?_ _ | with_reducible refine Keeps.drew ?_)))
    clear hK K
    try simp only [Act.put, List.setIfInBounds_toArray, List.set_cons_zero, List.set_cons_succ]
    refine take_op (i := 32) (oi := ?op32) ?hi32 ?hk32
    case hi32 => simp only [List.getElem?_toArray, List.getElem?_cons_zero, List.getElem?_cons_succ]; rfl
    refine ⟨by kernel_rfl, by kernel_rfl, by kernel_rfl, ?va32, fun _ _ _ h => h, Or.inl ⟨by rfl, ?hy32⟩, by assumption, ?re32⟩
    case hy32 => (intro w hSw; (try dsimp only at hSw); go_simp) <;> with_reducible rfl
    try simp only [Act.put, List.setIfInBounds_toArray, List.set_cons_zero, List.set_cons_succ]
    refine take_op (i := 33) (oi := ?op33) ?hi33 ?hk33
    case hi33 => simp only [List.getElem?_toArray, List.getElem?_cons_zero, List.getElem?_cons_succ]; rfl
    refine ⟨by kernel_rfl, by kernel_rfl, by kernel_rfl, ?va33, fun _ _ _ h => h, Or.inl ⟨by rfl, ?hy33⟩, by assumption, ?re33⟩
    case hy33 => (intro w hSw; (try dsimp only at hSw); go_simp) <;> with_reducible rfl
    try simp only [Act.put, List.setIfInBounds_toArray, List.set_cons_zero, List.set_cons_succ]
    refine take_op (i := 34) (oi := ?op34) ?hi34 ?hk34
    case hi34 => simp only [List.getElem?_toArray, List.getElem?_cons_zero, List.getElem?_cons_succ]; rfl
    refine ⟨by kernel_rfl, by kernel_rfl, by kernel_rfl, undef, fun _ _ _ h => h, Or.inr ⟨by rfl, rfl⟩, by assumption, ?_⟩
    try simp only [Act.put, List.setIfInBounds_toArray, List.set_cons_zero, List.set_cons_succ]
    refine take_op (i := 35) (oi := ?op35) ?hi35 ?hk35
    case hi35 => simp only [List.getElem?_toArray, List.getElem?_cons_zero, List.getElem?_cons_succ]; rfl
    refine ⟨by kernel_rfl, by kernel_rfl, by kernel_rfl, undef, fun _ _ _ h => h, Or.inr ⟨by rfl, rfl⟩, by assumption, ?_⟩
    try simp only [Act.put, List.setIfInBounds_toArray, List.set_cons_zero, List.set_cons_succ]
    refine take_op (i := 36) (oi := ?op36) ?hi36 ?hk36
    case hi36 => simp only [List.getElem?_toArray, List.getElem?_cons_zero, List.getElem?_cons_succ]; rfl
    refine ⟨by kernel_rfl, by kernel_rfl, by kernel_rfl, undef, fun _ _ _ h => h, Or.inr ⟨by rfl, rfl⟩, by assumption, ?_⟩
    try simp only [Act.put, List.setIfInBounds_toArray, List.set_cons_zero, List.set_cons_succ]
    refine take_op (i := 37) (oi := ?op37) ?hi37 ?hk37
    case hi37 => simp only [List.getElem?_toArray, List.getElem?_cons_zero, List.getElem?_cons_succ]; rfl
    refine ⟨by kernel_rfl, by kernel_rfl, by kernel_rfl, undef, fun _ _ _ h => h, Or.inr ⟨by rfl, rfl⟩, by assumption, ?_⟩
    try simp only [Act.put, List.setIfInBounds_toArray, List.set_cons_zero, List.set_cons_succ]
    refine take_op (i := 38) (oi := ?op38) ?hi38 ?hk38
    case hi38 => simp only [List.getElem?_toArray, List.getElem?_cons_zero, List.getElem?_cons_succ]; rfl
    refine ⟨by kernel_rfl, by kernel_rfl, by kernel_rfl, undef, fun _ _ _ h => h, Or.inr ⟨by rfl, rfl⟩, by assumption, ?_⟩
    try simp only [Act.put, List.setIfInBounds_toArray, List.set_cons_zero, List.set_cons_succ]
    refine take_op (i := 39) (oi := ?op39) ?hi39 ?hk39
    case hi39 => simp only [List.getElem?_toArray, List.getElem?_cons_zero, List.getElem?_cons_succ]; rfl
    refine ⟨by kernel_rfl, by kernel_rfl, by kernel_rfl, ?va39, fun _ _ _ h => h, Or.inl ⟨by rfl, ?hy39⟩, by assumption, ?re39⟩
    case hy39 => (intro w hSw; (try dsimp only at hSw); go_simp) <;> with_reducible rfl
    try simp only [Act.put, List.setIfInBounds_toArray, List.set_cons_zero, List.set_cons_succ]
    refine take_op (i := 40) (oi := ?op40) ?hi40 ?hk40
    case hi40 => simp only [List.getElem?_toArray, List.getElem?_cons_zero, List.getElem?_cons_succ]; rfl
    refine ⟨by kernel_rfl, by kernel_rfl, by kernel_rfl, ?va40, fun _ _ _ h => h, Or.inl ⟨by rfl, ?hy40⟩, by assumption, ?re40⟩
    case hy40 => (intro w hSw; (try dsimp only at hSw); go_simp) <;> with_reducible rfl
    try simp only [Act.put, List.setIfInBounds_toArray, List.set_cons_zero, List.set_cons_succ]
    refine wpAnyH_done (by kernel_rfl) ?_ _
    all_goals (first | (go_ret; exact ⟨rfl, HK.out.trans HKN.out⟩) | (go_wp2_with fail; go_ret; exact ⟨rfl, HK.out.trans HKN.out⟩))
  have HRM : Hid (R = MQ) := Lib.hid (by rw [HR.out]; rfl)
  go_region_held3 (fun w' => w'.cell? ⟨w.heap.size, 0, none⟩ = some (.int .i64 xid) ∧ w'.cell? ⟨w.heap.size, 1, none⟩ = some (.slice xoa xolen xocap) ∧ w'.cell? ⟨w.heap.size, 2, none⟩ = some (.slice xia xn xcap) ∧ w'.cell? ⟨w.heap.size, 3, none⟩ = some (.int .i64 xlife) ∧ w'.cell? ⟨w.heap.size, 4, none⟩ = some (.int .i64 xwant) ∧ w'.cell? ⟨w.heap.size + 1, 0, none⟩ = some (.int .i64 xid) ∧ w'.cell? ⟨w.heap.size + 1, 1, none⟩ = some (.slice yoa yolen yocap) ∧ w'.cell? ⟨w.heap.size + 1, 2, none⟩ = some (.slice yia yn ycap) ∧ w'.cell? ⟨w.heap.size + 1, 3, none⟩ = some (.int .i64 xlife) ∧ w'.cell? ⟨w.heap.size + 1, 4, none⟩ = some (.int .i64 xwant))
    ((refine ⟨Keeps.later (a := W) ?_ fhb0, Keeps.later (a := W) ?_ fhb1, Keeps.later (a := W) ?_ fhb2, Keeps.later (a := W) ?_ fhb3, Keeps.later (a := W) ?_ fhb4, Keeps.later (a := W) ?_ fhz0, Keeps.later (a := W) ?_ fhz1, Keeps.later (a := W) ?_ fhz2, Keeps.later (a := W) ?_ fhz3, Keeps.later (a := W) ?_ fhz4⟩ <;> repeat (first | with_reducible exact HKN.out | with_reducible refine Keeps.alloc ?_ _ | with_reducible refine Keeps.drew ?_)))
    (first | (go_at_call 23; with_reducible refine (HEQ.out _ ?_).mono ?_; (repeat (first | with_reducible exact HKN.out | with_reducible refine Keeps.alloc ?_ _ | with_reducible refine Keeps.drew ?_)); rintro e u ⟨rfl, rfl⟩) | (go_at_call 67; with_reducible refine (HFA.out _ ?_).mono ?_; (repeat (first | with_reducible exact HKN.out | with_reducible refine Keeps.alloc ?_ _ | with_reducible refine Keeps.drew ?_)); rintro e u ⟨v1, rfl, hv1, hk⟩; (try (have HVM := Lib.hid (Ints.keeps HV2.out (Keeps.trans (show Keeps _ _ by repeat (first | with_reducible exact Keeps.refl _ | with_reducible refine Keeps.alloc ?_ _ | with_reducible refine Keeps.drew ?_)) hk)); clear HV2; have HV2 := HVM; clear HVM)); have HV1 := Lib.hid hv1; clear hv1; have HKM := Lib.hid (Keeps.trans (show Keeps W _ by repeat (first | with_reducible exact HKN.out | with_reducible refine Keeps.alloc ?_ _ | with_reducible refine Keeps.drew ?_)) hk); clear hk HKN; have HKN := HKM; clear HKM) | (go_at_call 67; with_reducible refine (HFB.out _ ?_).mono ?_; (repeat (first | with_reducible exact HKN.out | with_reducible refine Keeps.alloc ?_ _ | with_reducible refine Keeps.drew ?_)); rintro e u ⟨v2, rfl, hv2, hk⟩; (try (have HVM := Lib.hid (Ints.keeps HV1.out (Keeps.trans (show Keeps _ _ by repeat (first | with_reducible exact Keeps.refl _ | with_reducible refine Keeps.alloc ?_ _ | with_reducible refine Keeps.drew ?_)) hk)); clear HV1; have HV1 := HVM; clear HVM)); have HV2 := Lib.hid hv2; clear hv2; have HKM := Lib.hid (Keeps.trans (show Keeps W _ by repeat (first | with_reducible exact HKN.out | with_reducible refine Keeps.alloc ?_ _ | with_reducible refine Keeps.drew ?_)) hk); clear hk HKN; have HKN := HKM; clear HKM) | (go_at_call 34; with_reducible refine (HEI.out v1 v2 _ (Ints.keeps HV1.out ?_) (Ints.keeps HV2.out ?_)).mono ?_; (repeat (first | with_reducible exact Keeps.refl _ | with_reducible refine Keeps.alloc ?_ _ | with_reducible refine Keeps.drew ?_)); (repeat (first | with_reducible exact Keeps.refl _ | with_reducible refine Keeps.alloc ?_ _ | with_reducible refine Keeps.drew ?_)); rintro e u ⟨rfl, hk⟩; have HKM := Lib.hid (Keeps.trans (show Keeps W _ by repeat (first | with_reducible exact HKN.out | with_reducible refine Keeps.alloc ?_ _ | with_reducible refine Keeps.drew ?_)) hk); clear hk HKN; have HKN := HKM; clear HKM) | (go_at_call 68; with_reducible refine (HEM.out _ ?_).mono ?_; (repeat (first | with_reducible exact HKN.out | with_reducible refine Keeps.alloc ?_ _ | with_reducible refine Keeps.drew ?_)); rintro e u ⟨rfl, hk⟩; have HKM := Lib.hid (Keeps.trans (show Keeps W _ by repeat (first | with_reducible exact HKN.out | with_reducible refine Keeps.alloc ?_ _ | with_reducible refine Keeps.drew ?_)) hk); clear hk HKN; have HKN := HKM; clear HKM))
  all_goals (first | (go_ret; exact ⟨by rw [HRM.out]; rfl, HK.out.trans HKN.out⟩) | (go_wp2_with fail; go_ret; exact ⟨by rw [HRM.out]; rfl, HK.out.trans HKN.out⟩))
end Go.Proofs.Ytcophhdlcjemeaa
