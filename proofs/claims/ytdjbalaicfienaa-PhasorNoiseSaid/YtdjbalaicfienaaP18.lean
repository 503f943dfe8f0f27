/- The walks of layer 3, 12: bits read of samples, on both sides. -/
import Derived.Test.YtdjbalaicfienaaP12
import Derived.Test.YtdjbalaicfienaaW5
import Derived.Maps.AppendAt
import Derived.Laws.OwnMore
namespace Go.Proofs.Ytdjbalaicfienaa
open Go.RowKit
set_option linter.unusedVariables false
set_option linter.unusedSimpArgs false
/-- 'append(l, xs...)', l the call's own, xs a row of cells that lies somewhere -/
theorem wpList_rowsB {P : Program} {w : World} {ops : Array Oper} {rest : List Oper} {o : Oper} {a : Act} {Q : Exit → Act → World → Prop} (hgd : o.guard = none) (s x : Operand) (t : TypeId)
    (ho : o.op = .call { callee := .builtin .append, args := #[s, x], argTypes := #[t, t] }) (e bytes : Nat) (z : Value) (ht : P.underlying t = some (.slice e))
    (hinfo : (P.info? e).map (fun i => (i.zero, i.size, i.bytes)) = some (some z, 1, bytes)) (hz : z.cells.size = 1)
    (base : Nat) (v : Value) (xs : List Value) (hs : a.eval s = v) (hown : Own w base e v xs) (y : Addr) (m c : Nat) (news : List Value) (hx : a.eval x = .slice (some y) m c) (hrow : RowV w (some y) m news)
    (h1 : ∀ u ∈ news, u.oneCell' = true) (hlen : (xs.length + m) * bytes ≤ 140737488355328) (h63 : xs.length + m ≤ 9223372036854775807) (hbase : base ≤ w.heap.size)
    (h : ∀ v' w', Own w' base e v' (xs ++ news) → Below base w w' → wpList P ops Q rest (a.put o.dst v') w') : wpList P ops Q (o :: rest) a w := by
  obtain ⟨i, hi, hz0, hz1, hz2⟩ := info_parts hinfo
  have hl := hrow.1
  refine wpList_append_own_at w hgd s x t ho base e i z 1 bytes ht hi hz0 hz1 hz2 hz (by decide) v xs.length xs hs hown y m c news hx (by omega) (fun j u hj => ?_) h1 (by unfold maxLen; omega) hlen hbase ?_
  · have hjl : j < news.length := (List.getElem?_eq_some_iff.1 hj).1
    obtain ⟨b, off, hab, hc⟩ := hrow.2 j (by omega)
    cases hab
    rw [hj] at hc
    by_cases hj0 : j = 0
    · subst hj0; simpa [Addr.add] using hc
    · simpa [Addr.add, hj0] using hc
  · intro v' w' hown' hg _ _
    refine h v' w' ?_ ((Below.refl base w).grown hg hbase (fun k hk => (hown.lt k hk).1))
    unfold Own; rw [List.length_append, hl]; exact hown'
theorem Box.twoB {w : World} {b t : Nat} {x y : Bool} (h : Box w b t #[.bool x, .bool y]) : RowV w (some ⟨b, 0, none⟩) 2 ([x, y].map Value.bool) := by
  refine ⟨rfl, fun i hi => ⟨b, 0, rfl, ?_⟩⟩
  match i, hi with
  | 0, _ => exact h.cell 0 _ rfl
  | 1, _ => exact h.cell 1 _ rfl
/-- two bits of each of the first j samples, turned by k quarters -/
def rdOf (s : Smp) (k : Nat) : List Bool := [decide ((turnS s k).q < 0), decide ((turnS s k).i < 0)]
def rdTo (xs : List Smp) (k j : Nat) : List Bool := (xs.take j).flatMap fun s => rdOf s k
theorem rdTo_succ (xs : List Smp) (k j : Nat) (h : j < xs.length) : rdTo xs k (j + 1) = rdTo xs k j ++ rdOf xs[j] k := by
  unfold rdTo
  rw [List.take_succ_eq_append_getElem h, List.flatMap_append]
  simp
theorem rdTo_len (xs : List Smp) (k j : Nat) (h : j ≤ xs.length) : (rdTo xs k j).length = 2 * j := by
  induction j with
  | zero => rfl
  | succ j ih =>
    rw [rdTo_succ xs k j (by omega), List.length_append, ih (by omega)]
    simp [rdOf]; omega
set_option maxRecDepth 100000 in
set_option maxHeartbeats 2000000 in
theorem read_any (a : Option Addr) (n cap : Nat) (xs : List Smp) (ba bb k : Nat) (w : World) (hx : SRow w a n cap xs) (hall : allB xs = true) (fa : FInt ba (unitOf k).1) (fb : FInt bb (unitOf k).2) (hn : n ≤ 100000) :
    Calls Try.prog 87 #[.slice a n cap, .complex .f64 ba bb] w fun e w' => ∃ v, e = .returned v ∧ Own w' w.heap.size 4 v ((rdTo xs k n).map Value.bool) ∧ Keeps w w' := by
  have HX := Lib.hid hx
  have hlen := hx.len
  have hcap := hx.hcap
  have hmax := hx.hmax
  have HALL := Lib.hid (fun j hj => allB_get hall j hj)
  have HUA := Lib.hid fa
  have HUB := Lib.hid fb
  subst hlen
  clear hx hall fa fb
  go_enter Try.func87, Try.ntmps87
  go_wp2_with fail
  go_loopw [5, 11] (fun v i wr => ∃ j : Nat, j ≤ xs.length ∧ i = .int .i64 j ∧ Hid (Own wr w.heap.size 4 v ((rdTo xs k j).map Value.bool)) ∧ Hid (Keeps w wr)) (fun _ i _ => xs.length - (intOf i).toNat)
  case atStart => exact ⟨0, by omega, rfl, Own.nil _ _ _, Keeps.refl w⟩
  case round =>
    obtain ⟨j, hj, rfl, HO, HK⟩ := hrel
    have hsz := HK.out.size
    by_cases hlt : j < xs.length
    · obtain ⟨b, off, rfl, hbl, hcell⟩ := HX.out.addr (by omega)
      obtain ⟨hc0, hc1⟩ := hcell j hlt
      replace hc0 := HK.out.later hc0
      replace hc1 := HK.out.later hc1
      have hma := mayB_abs (HALL.out j hlt)
      have HS := Lib.hid (rdTo_succ xs k j hlt)
      have hln : ((rdTo xs k j).map Value.bool).length = 2 * j := by rw [List.length_map, rdTo_len xs k j hj]
      clear hcell
      obtain ⟨x, hx⟩ : ∃ x, x = xs[j] := ⟨_, rfl⟩
      rw [← hx] at hc0 hc1 hma HS
      clear hx
      obtain ⟨si, sq⟩ := x
      simp only at hc0 hc1 hma
      go_wp2_with fail
      with_reducible refine (number_any ⟨si, sq⟩ _ (by simp only; omega) (by simp only; omega)).mono ?_
      rintro e w3 ⟨na, nb, rfl, ga, gb, hk3⟩
      obtain ⟨re, im, k1, k2, e1⟩ := cmul_int ga gb HUA.out HUB.out 262144 1 hma.1 hma.2 (unitOf_abs k).1 (unitOf_abs k).2 (by decide)
      have e2 := e1 Try.prog 95
      have hts := turnS_unit ⟨si, sq⟩ k
      simp only at hts k1 k2
      rw [← hts.1] at k1
      rw [← hts.2] at k2
      have hl1 := FInt.lt k1 FInt.zero
      have hl2 := FInt.lt k2 FInt.zero
      have HO3 := Lib.hid ((HO.out.keeps ((Keeps.refl wr).alloc (.cells #[.int .i64 si, .int .i64 sq] 63))).keeps hk3)
      have HK3 : Hid (Keeps w w3) := Lib.hid (HK.out.trans hk3.unbox)
      have HR : Hid (rdOf ⟨si, sq⟩ k = [decide ((turnS ⟨si, sq⟩ k).q < 0), decide ((turnS ⟨si, sq⟩ k).i < 0)]) := Lib.hid rfl
      obtain ⟨D1, hD1⟩ : ∃ D, D = decide ((turnS ⟨si, sq⟩ k).i < 0) := ⟨_, rfl⟩
      obtain ⟨D2, hD2⟩ : ∃ D, D = decide ((turnS ⟨si, sq⟩ k).q < 0) := ⟨_, rfl⟩
      rw [← hD1] at hl1 HR
      rw [← hD2] at hl2 HR
      rw [HR.out] at HS
      have hsz3 := HK3.out.size
      clear k1 k2 hts e1 ga gb hk3 hc0 hc1 HO HK hD1 hD2 HR hma
      go_wp2_with (refine wpList_rowsB rfl _ _ 102 rfl 4 1 (.bool false) Try.underlying102 info_bool rfl w.heap.size _ _ rfl (by exact HO3.out.keeps ((Keeps.refl _).alloc _)) ⟨w3.heap.size, 0, none⟩ 2 2 ([D2, D1].map Value.bool) rfl (by exact Box.twoB (Box.new _ _ _)) (by intro u hu; simp only [List.map_cons, List.map_nil, List.mem_cons, List.not_mem_nil, or_false] at hu; rcases hu with rfl | rfl <;> rfl) (by rw [hln]; omega) (by rw [hln]; omega) (by simp; omega) ?hmain)
      case hmain =>
        intro v' w5 hown hbel
        have hown2 : Own w5 w.heap.size 4 v' ((rdTo xs k (j + 1)).map Value.bool) := by rw [HS.out, List.map_append]; exact hown
        have HO5 := Lib.hid hown2
        have HK5 : Hid (Keeps w w5) := Lib.hid ((HK3.out.alloc _).below hbel (Nat.le_refl _))
        clear hown hown2 hbel HO3 HK3 HS
        go_wp2_with fail
        go_roundw
        case rel => exact ⟨j + 1, by omega, by go_num, HO5, HK5⟩
        case measure => simp [intOf]; omega
    · obtain rfl : j = xs.length := by omega
      go_wp2_with fail
      go_ret
      exact ⟨_, rfl, HO.out, HK.out⟩
/-- by how many quarters one turns back -/
def backK (q : Int) : Nat := (4 - qOf q) % 4
theorem qOf_back (q : Int) : qOf (4 - (qOf q : Int)) = backK q := by
  have h1 := qOf_emod q
  have h2 := qOf_emod (4 - (qOf q : Int))
  unfold backK
  omega
set_option maxRecDepth 100000 in
set_option maxHeartbeats 2000000 in
theorem rbits_any (a : Option Addr) (n cap : Nat) (xs : List Smp) (q : Int) (w : World) (hx : SRow w a n cap xs) (hall : allB xs = true) (hn : n ≤ 100000) (h1 : -9223372036854775808 ≤ q) (h2 : q ≤ 9223372036854775807) :
    Calls Try.prog 89 #[.slice a n cap, .int .i64 q] w fun e w' => ∃ v, e = .returned v ∧ Own w' w.heap.size 4 v ((rdTo xs (backK q) n).map Value.bool) ∧ Keeps w w' := by
  have HX := Lib.hid hx
  have hlen := hx.len
  have hcap := hx.hcap
  have hmax := hx.hmax
  have HALL := Lib.hid (fun j hj => allB_get hall j hj)
  subst hlen
  obtain ⟨K, hK4, hq, hm⟩ := qOf_cases q
  have hb1 := Int.tmod_lt_of_pos q (show (0 : Int) < 4 by decide)
  have hb2 := Int.lt_tmod_of_pos q (show (0 : Int) < 4 by decide)
  have hw : IntKind.i64.wrap (q.tmod 4 + 4) = q.tmod 4 + 4 := by simp [IntKind.wrap, IntKind.bits, IntKind.signed]; omega
  have HQB := Lib.hid (qOf_back q)
  rw [hq] at HQB
  obtain ⟨k, hk⟩ : ∃ k, k = backK q := ⟨_, rfl⟩
  rw [← hk] at HQB ⊢
  have hw4 : IntKind.i64.wrap (4 - (K : Int)) = 4 - K := wrap_small (by omega)
  clear hx hall hb1 hb2 hq hk
  go_enter Try.func89, Try.ntmps89
  go_wp2_with fail
  go_loopw [5, 6] (fun v i wr => ∃ j : Nat, j ≤ xs.length ∧ i = .int .i64 j ∧ Hid (Own wr w.heap.size 4 v ((rdTo xs k j).map Value.bool)) ∧ Hid (Keeps w wr)) (fun _ i _ => xs.length - (intOf i).toNat)
  case atStart => exact ⟨0, by omega, rfl, Own.nil _ _ _, Keeps.refl w⟩
  case round =>
    obtain ⟨j, hj, rfl, HO, HK⟩ := hrel
    have hsz := HK.out.size
    by_cases hlt : j < xs.length
    · obtain ⟨b, off, rfl, hbl, hcell⟩ := HX.out.addr (by omega)
      obtain ⟨hc0, hc1⟩ := hcell j hlt
      replace hc0 := HK.out.later hc0
      replace hc1 := HK.out.later hc1
      have hma := mayB_abs (HALL.out j hlt)
      have HS := Lib.hid (rdTo_succ xs k j hlt)
      have hln : ((rdTo xs k j).map Value.bool).length = 2 * j := by rw [List.length_map, rdTo_len xs k j hj]
      clear hcell
      obtain ⟨x, hx⟩ : ∃ x, x = xs[j] := ⟨_, rfl⟩
      rw [← hx] at hc0 hc1 hma HS
      clear hx
      obtain ⟨si, sq⟩ := x
      simp only at hc0 hc1 hma
      have HR : Hid (rdOf ⟨si, sq⟩ k = [decide ((turnS ⟨si, sq⟩ k).q < 0), decide ((turnS ⟨si, sq⟩ k).i < 0)]) := Lib.hid rfl
      go_wp2_with fail
      with_reducible refine (turned_any ⟨si, sq⟩ (4 - (K : Int)) _ (by simp only; omega) (by simp only; omega)).mono ?_
      rw [HQB.out]
      obtain ⟨S, hS⟩ : ∃ S, S = turnS ⟨si, sq⟩ k := ⟨_, rfl⟩
      rw [← hS] at HR ⊢
      rw [HR.out] at HS
      rintro e w3 ⟨rfl, hk3⟩
      obtain ⟨ti, tq⟩ := S
      have HO3 := Lib.hid ((HO.out.keeps hk3).keeps ((Keeps.refl w3).alloc (.cells #[.int .i64 ti, .int .i64 tq] 63)))
      have HK3 : Hid (Keeps w w3) := Lib.hid (HK.out.trans hk3)
      simp only at HS
      obtain ⟨D1, hD1⟩ : ∃ D, D = decide (ti < 0) := ⟨_, rfl⟩
      obtain ⟨D2, hD2⟩ : ∃ D, D = decide (tq < 0) := ⟨_, rfl⟩
      rw [← hD1, ← hD2] at HS
      have hE1 := hD1.symm
      have hE2 := hD2.symm
      have hsz3 := HK3.out.size
      clear hk3 hc0 hc1 HO HK hD1 hD2 HR hma hS
      go_wp2_with (refine wpList_rowsB rfl _ _ 102 rfl 4 1 (.bool false) Try.underlying102 info_bool rfl w.heap.size _ _ rfl (by exact HO3.out.keeps ((Keeps.refl _).alloc _)) ⟨w3.heap.size + 1, 0, none⟩ 2 2 ([D2, D1].map Value.bool) rfl (by first | exact Box.twoB (Box.new _ _ _) | (have hbx := Box.new (w3.alloc (.cells #[.int .i64 ti, .int .i64 tq] 63)) 4 #[.bool D2, .bool D1]; rw [World.size_alloc] at hbx; exact hbx.twoB)) (by intro u hu; simp only [List.map_cons, List.map_nil, List.mem_cons, List.not_mem_nil, or_false] at hu; rcases hu with rfl | rfl <;> rfl) (by rw [hln]; omega) (by rw [hln]; omega) (by simp; omega) ?hmain)
      case hmain =>
        intro v' w5 hown hbel
        have hown2 : Own w5 w.heap.size 4 v' ((rdTo xs k (j + 1)).map Value.bool) := by rw [HS.out, List.map_append]; exact hown
        have HO5 := Lib.hid hown2
        have HK5 : Hid (Keeps w w5) := Lib.hid (((HK3.out.alloc _).alloc _).below hbel (Nat.le_refl _))
        clear hown hown2 hbel HO3 HK3 HS
        go_wp2_with fail
        go_roundw
        case rel => exact ⟨j + 1, by omega, by go_num, HO5, HK5⟩
        case measure => simp [intOf]; omega
    · obtain rfl : j = xs.length := by omega
      go_wp2_with fail
      go_ret
      exact ⟨_, rfl, HO.out, HK.out⟩
end Go.Proofs.Ytdjbalaicfienaa
