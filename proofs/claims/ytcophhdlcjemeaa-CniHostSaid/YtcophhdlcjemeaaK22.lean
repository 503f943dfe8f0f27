/- The walks of layer 12, 22: the reference's New. -/
import Derived.Test.YtcophhdlcjemeaaK13
namespace Go.Proofs.Ytcophhdlcjemeaa
open Go.RowKit
set_option linter.unusedVariables false
set_option linter.unusedSimpArgs false
/-- 'append(l, x)' of messages, l the call's own -/
theorem wpList_pushM {w : World} {ops : Array Oper} {rest : List Oper} {o : Oper} {a : Act} {Q : Exit → Act → World → Prop} (hgd : o.guard = none) (s x : Operand)
    (ho : o.op = .call { callee := .builtin .append, args := #[s, x], argTypes := #[37, 37] })
    (base : Nat) (v : Value) (xs : List RMsg) (hs : a.eval s = v) (hown : OwnMs w base v xs) (B : Nat) (y : RMsg) (hx : a.eval x = .slice (some ⟨B, 0, none⟩) 1 1) (hB : Box w B 53 #[.slice y.d.a y.d.len y.d.cap, .int .i64 y.age])
    (hy : y.d.In w) (hyf : 0 < y.d.len → ∀ a, y.d.a = some a → v.ownBlock ≠ some a.block) (hn : xs.length + 1 ≤ 1000) (hbase : base ≤ w.heap.size)
    (h : ∀ v' w', OwnMs w' base v' (xs ++ [y]) → w.grownBy w' v.ownBlock → (v'.ownBlock = v.ownBlock ∨ v'.ownBlock = some w.heap.size) → wpList Try.prog ops Q rest (a.put o.dst v') w') :
    wpList Try.prog ops Q (o :: rest) a w := by
  obtain ⟨i, hi, hz0, hz1, hz2⟩ := info_parts infoMsg
  refine wpList_append_own_at w hgd s x 37 ho base 53 i _ 2 32 Try.underlying37 hi hz0 hz1 hz2 rfl (by decide) v xs.length (mcells xs) hs hown.row ⟨B, 0, none⟩ 1 1 y.cells hx rfl (fun j u hj => by
      have hc := hB.cell j u (by simpa [RMsg.cells] using hj)
      by_cases hj0 : j = 0
      · subst hj0; simpa [Addr.add] using hc
      · simpa [Addr.add, hj0] using hc) (fun u hu => by
      simp only [RMsg.cells, List.mem_cons, List.not_mem_nil, or_false] at hu
      rcases hu with rfl | rfl <;> rfl) (by unfold maxLen; omega) (by omega) hbase ?_
  intro v' w' hown' hg _ hat
  refine h v' w' ⟨?_, fun u hu => ?_, fun u hu h0 b hb => ?_⟩ hg hat
  · rw [List.length_append]
    have hcs : mcells (xs ++ [y]) = mcells xs ++ y.cells := by simp [mcells]
    rw [hcs]
    exact hown'
  · rw [List.mem_append, List.mem_singleton] at hu
    rcases hu with hu | rfl
    · exact (hown.isIn u hu).grown hg (hown.far u hu)
    · exact hy.grown hg hyf
  · have hold : v.ownBlock ≠ some b.block ∧ b.block < w.heap.size := by
      rw [List.mem_append, List.mem_singleton] at hu
      rcases hu with hu | rfl
      · exact ⟨hown.far u hu h0 b hb, (hown.isIn u hu).blk h0 b hb⟩
      · exact ⟨hyf h0 b hb, hy.blk h0 b hb⟩
    rcases hat with he | he
    · rw [he]; exact hold.1
    · rw [he]
      intro e
      simp only [Option.some.injEq] at e
      omega
set_option maxRecDepth 100000 in
set_option maxHeartbeats 2000000 in
theorem rnew_any (id n : Int) (w : World) : Calls Try.prog 38 #[.int .i64 id, .int .i64 n] w (CniPost (newP id n) (newE id n) w) := by
  have HP : Hid (newP id n = cond (betw n 4 8 && betw id 0 (n - 1)) ⟨id, [], List.replicate n.toNat ([], 255), 4, -1⟩ PCni.zero) := Lib.hid rfl
  have HE : Hid (newE id n = cond (betw n 4 8 && betw id 0 (n - 1)) 0 120) := Lib.hid rfl
  have HBN : Hid (¬ (4 ≤ n ∧ n ≤ 8 ∧ 0 ≤ id ∧ id ≤ n - 1) → (betw n 4 8 && betw id 0 (n - 1)) = false) := Lib.hid (fun h => by
    rw [Bool.eq_false_iff, ne_eq, Bool.and_eq_true, betw_iff, betw_iff]
    omega)
  have HBY : Hid (4 ≤ n ∧ n ≤ 8 ∧ 0 ≤ id ∧ id ≤ n - 1 → (betw n 4 8 && betw id 0 (n - 1)) = true) := Lib.hid (fun h => by
    rw [Bool.and_eq_true, betw_iff, betw_iff]
    omega)
  obtain ⟨P, hP⟩ : ∃ P, P = newP id n := ⟨_, rfl⟩
  obtain ⟨E, hE⟩ : ∃ E, E = newE id n := ⟨_, rfl⟩
  obtain ⟨B, hB⟩ : ∃ B, B = (betw n 4 8 && betw id 0 (n - 1)) := ⟨_, rfl⟩
  rw [← hB] at HP HE HBN HBY
  rw [← hP] at HP
  rw [← hE] at HE
  rw [← hP, ← hE]
  clear hP hE hB
  have HZ := Lib.hid (Box.new w 39 #[.int .i64 0, .slice none 0 0, .slice none 0 0, .int .i64 0, .int .i64 0])
  have HK := Lib.hid ((Keeps.refl w).alloc (.cells #[.int .i64 0, .slice none 0 0, .slice none 0 0, .int .i64 0, .int .i64 0] 39))
  have z0 := HZ.out.cell 0 _ rfl
  have z1 := HZ.out.cell 1 _ rfl
  have z2 := HZ.out.cell 2 _ rfl
  have z3 := HZ.out.cell 3 _ rfl
  have z4 := HZ.out.cell 4 _ rfl
  have zl := HZ.out.lt
  have zf := HZ.out.frozen
  by_cases t0 : n < 4
  case pos =>
    have d0 : decide (n < 4) = true := decide_eq_true t0
    obtain rfl : B = false := HBN.out (by omega)
    simp only [cond_false] at HP HE
    obtain rfl : E = 120 := HE.out
    go_enter Try.func38, Try.ntmps38
    go_wp2_with fail
    refine bodyPost_ret (v := .tuple #[.agg #[.int .i64 0, .slice none 0 0, .slice none 0 0, .int .i64 0, .int .i64 0], .int .i64 120]) (by simp [results, Try.results38, go_sem, *]) rfl ⟨RCni.zero, rfl, HP.out.symm, RCni.zero_own _ _, ?_⟩
    repeat (first | with_reducible exact HK.out | with_reducible refine Keeps.setCell ?_ (by simp <;> omega) _ | with_reducible refine Keeps.alloc ?_ _)
  have d0 : decide (n < 4) = false := decide_eq_false t0
  by_cases t1 : 8 < n
  case pos =>
    have d1 : decide (8 < n) = true := decide_eq_true t1
    obtain rfl : B = false := HBN.out (by omega)
    simp only [cond_false] at HP HE
    obtain rfl : E = 120 := HE.out
    go_enter Try.func38, Try.ntmps38
    go_wp2_with fail
    refine bodyPost_ret (v := .tuple #[.agg #[.int .i64 0, .slice none 0 0, .slice none 0 0, .int .i64 0, .int .i64 0], .int .i64 120]) (by simp [results, Try.results38, go_sem, *]) rfl ⟨RCni.zero, rfl, HP.out.symm, RCni.zero_own _ _, ?_⟩
    repeat (first | with_reducible exact HK.out | with_reducible refine Keeps.setCell ?_ (by simp <;> omega) _ | with_reducible refine Keeps.alloc ?_ _)
  have d1 : decide (8 < n) = false := decide_eq_false t1
  by_cases t2 : id < 0
  case pos =>
    have d2 : decide (id < 0) = true := decide_eq_true t2
    obtain rfl : B = false := HBN.out (by omega)
    simp only [cond_false] at HP HE
    obtain rfl : E = 120 := HE.out
    go_enter Try.func38, Try.ntmps38
    go_wp2_with fail
    refine bodyPost_ret (v := .tuple #[.agg #[.int .i64 0, .slice none 0 0, .slice none 0 0, .int .i64 0, .int .i64 0], .int .i64 120]) (by simp [results, Try.results38, go_sem, *]) rfl ⟨RCni.zero, rfl, HP.out.symm, RCni.zero_own _ _, ?_⟩
    repeat (first | with_reducible exact HK.out | with_reducible refine Keeps.setCell ?_ (by simp <;> omega) _ | with_reducible refine Keeps.alloc ?_ _)
  have d2 : decide (id < 0) = false := decide_eq_false t2
  by_cases t3 : n ≤ id
  case pos =>
    have d3 : decide (n ≤ id) = true := decide_eq_true t3
    obtain rfl : B = false := HBN.out (by omega)
    simp only [cond_false] at HP HE
    obtain rfl : E = 120 := HE.out
    go_enter Try.func38, Try.ntmps38
    go_wp2_with fail
    refine bodyPost_ret (v := .tuple #[.agg #[.int .i64 0, .slice none 0 0, .slice none 0 0, .int .i64 0, .int .i64 0], .int .i64 120]) (by simp [results, Try.results38, go_sem, *]) rfl ⟨RCni.zero, rfl, HP.out.symm, RCni.zero_own _ _, ?_⟩
    repeat (first | with_reducible exact HK.out | with_reducible refine Keeps.setCell ?_ (by simp <;> omega) _ | with_reducible refine Keeps.alloc ?_ _)
  have d3 : decide (n ≤ id) = false := decide_eq_false t3
  obtain rfl : B = true := HBY.out (by omega)
  simp only [cond_true] at HP HE
  obtain rfl : E = 0 := HE.out
  obtain ⟨m, rfl⟩ : ∃ m : Nat, n = m := ⟨n.toNat, by omega⟩
  simp only [Int.toNat_natCast] at HP
  have hm8 : m ≤ 8 := by omega
  go_enter Try.func38, Try.ntmps38
  go_wp2_with fail
  have HC := Lib.hid (Box.new (w.alloc (.cells #[.int .i64 0, .slice none 0 0, .slice none 0 0, .int .i64 0, .int .i64 0] 39)) 39 #[.int .i64 id, .slice none 0 0, .slice none 0 0, .int .i64 4, .int .i64 (-1)])
  have HZ2 := Lib.hid (HZ.out.next (.cells #[.int .i64 id, .slice none 0 0, .slice none 0 0, .int .i64 4, .int .i64 (-1)] 39))
  have HK2 := Lib.hid (HK.out.alloc (.cells #[.int .i64 id, .slice none 0 0, .slice none 0 0, .int .i64 4, .int .i64 (-1)] 39))
  simp only [World.size_alloc] at HC
  clear z0 z1 z2 z3 z4 zl zf HZ HK d0 d1 d2 d3
  go_loopw [7] (fun i wr => ∃ (k : Nat) (va : Option Addr) (vn vcap : Nat), k ≤ m ∧ i = .int .i64 k ∧ Hid (OwnMs wr (w.heap.size + 2) (.slice va vn vcap) (List.replicate k oldMsg)) ∧ Hid (Box wr (w.heap.size + 1) 39 #[.int .i64 id, .slice none 0 0, .slice va vn vcap, .int .i64 4, .int .i64 (-1)]) ∧ Hid (Box wr w.heap.size 39 #[.int .i64 0, .slice none 0 0, .slice none 0 0, .int .i64 0, .int .i64 0]) ∧ Hid (Keeps w wr)) (fun i _ => m - (intOf i).toNat)
  case atStart => exact ⟨0, none, 0, 0, Nat.zero_le _, rfl, Lib.hid (OwnMs.nil _ _), HC, HZ2, HK2⟩
  case round =>
    clear HC HZ2 HK2
    obtain ⟨k, va, vn, vcap, hk, rfl, HO, HC, HZ, HK⟩ := hrel
    have b0 := HC.out.cell 0 _ rfl
    have b1 := HC.out.cell 1 _ rfl
    have b2 := HC.out.cell 2 _ rfl
    have b3 := HC.out.cell 3 _ rfl
    have b4 := HC.out.cell 4 _ rfl
    have bl := HC.out.lt
    have bf := HC.out.frozen
    have hcl := HC.out.lt
    by_cases hlt : k < m
    · go_wp2_with (refine wpList_pushM rfl (.tmp 32) (.tmp 34) rfl (w.heap.size + 2) (.slice va vn vcap) (List.replicate k oldMsg) rfl (by exact HO.out.keeps ((Keeps.refl _).alloc _)) wr.heap.size oldMsg rfl (by exact Box.new _ _ _) (by exact RY.zero_in _) (fun h => absurd h (Nat.not_lt_zero _)) (by simp; omega) (by simp; omega) ?_; intro v' w5 hown hg hat; obtain ⟨va', vcap', rfl, -, -⟩ := hown.shape; have hbel := (Below.refl (w.heap.size + 2) _).grown hg (by simp; omega) (fun k hk => (HO.out.lt k hk).1); have HB5 := Lib.hid ((HC.out.next (.cells #[.slice none 0 0, .int .i64 255] 53)).below hbel (by omega)); have hb50 := HB5.out.cell 0 _ rfl; have hb51 := HB5.out.cell 1 _ rfl; have hb52 := HB5.out.cell 2 _ rfl; have hb53 := HB5.out.cell 3 _ rfl; have hb54 := HB5.out.cell 4 _ rfl; have hb5f := HB5.out.frozen; have hb5l := HB5.out.lt)
      have hrep : List.replicate k oldMsg ++ [oldMsg] = List.replicate (k + 1) oldMsg := by rw [List.replicate_succ']
      rw [hrep] at hown
      rw [show (List.replicate (k + 1) oldMsg).length = k + 1 by simp] at hown
      have hO5 : OwnMs (w5.setCell ⟨w.heap.size + 1, 2, none⟩ (.slice va' (k + 1) vcap')) (w.heap.size + 2) (.slice va' (k + 1) vcap') (List.replicate (k + 1) oldMsg) := hown.keepsBut (KeepsBut.setCell _ (w.heap.size + 1) 2 _) (fun e => by have h9 := (hown.lt _ e).1; omega) (fun x hx h0 a ha => by rw [List.eq_of_mem_replicate hx] at h0; exact absurd h0 (Nat.not_lt_zero _))
      have hZ5 := (((HZ.out.next (.cells #[.slice none 0 0, .int .i64 255] 53)).below hbel (by omega)).keepsBut (KeepsBut.setCell _ (w.heap.size + 1) 2 (.slice va' (k + 1) vcap')) (by omega))
      have hK5 := (((HK.out.alloc (.cells #[.slice none 0 0, .int .i64 255] 53)).below hbel (by omega)).setCell (show w.heap.size ≤ w.heap.size + 1 by omega) (p := ⟨w.heap.size + 1, 2, none⟩) (.slice va' (k + 1) vcap'))
      have hB5 := HB5.out.putK 2 (.slice va' (k + 1) vcap')
      have HQ1 := Lib.hid hO5
      have HQ2 := Lib.hid hZ5
      have HQ3 := Lib.hid hK5
      have HQ4 := Lib.hid hB5
      clear hO5 hZ5 hK5 hB5 hown hg hat hbel hb50 hb51 hb52 hb53 hb54 hb5f
      go_wp2_with fail
      go_roundw
      case rel => exact ⟨k + 1, va', k + 1, vcap', by omega, by go_num, HQ1, HQ4, HQ2, HQ3⟩
      case measure => simp [intOf]; omega
    · obtain rfl : k = m := by omega
      have HVO : Hid (RCni.Own ⟨id, RY.zero, va, vn, vcap, List.replicate k oldMsg, 4, -1⟩ wr (w.heap.size + 2)) := Lib.hid ⟨RY.zero_in _, HO.out, fun h => absurd h (Nat.not_lt_zero _), fun h => absurd h (Nat.not_lt_zero _), fun x hx h0 => by rw [List.eq_of_mem_replicate hx] at h0; exact absurd h0 (Nat.not_lt_zero _)⟩
      have z0 := HZ.out.cell 0 _ rfl
      have z1 := HZ.out.cell 1 _ rfl
      have z2 := HZ.out.cell 2 _ rfl
      have z3 := HZ.out.cell 3 _ rfl
      have z4 := HZ.out.cell 4 _ rfl
      have zl := HZ.out.lt
      have zf := HZ.out.frozen
      go_wp2_with fail
      refine bodyPost_ret (v := .tuple #[.agg #[.int .i64 id, .slice none 0 0, .slice va vn vcap, .int .i64 4, .int .i64 (-1)], .int .i64 0]) (by simp [results, Try.results38, go_sem, *]) rfl ⟨⟨id, RY.zero, va, vn, vcap, List.replicate k oldMsg, 4, -1⟩, rfl, ?_, ?_, ?_⟩
      · rw [HP.out]
        simp only [RCni.p, List.map_replicate]
        rfl
      · refine RCni.Own.mono (base := w.heap.size + 2) (HVO.out.same (E := wr.heap.size) ?_ (Nat.le_refl _)) (by omega)
        repeat (first | with_reducible exact SameOn.refl _ _ _ | with_reducible refine SameOn.setCell ?_ (by omega) _ _ | with_reducible refine SameOn.alloc ?_ (by simp) _)
      · repeat (first | with_reducible exact HK.out | with_reducible refine Keeps.setCell ?_ (by simp <;> omega) _ | with_reducible refine Keeps.alloc ?_ _)
end Go.Proofs.Ytcophhdlcjemeaa
