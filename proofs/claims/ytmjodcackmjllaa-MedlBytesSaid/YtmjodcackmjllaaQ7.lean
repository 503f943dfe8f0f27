/- A list of bytes that grows beside others; the reference's num, truths, sum. -/
import Derived.Test.YtmjodcackmjllaaQ6
import Derived.Maps.AppendAt
namespace Go.Proofs.Ytmjodcackmjllaa
open Go.RowKit
set_option linter.unusedVariables false
set_option linter.unusedSimpArgs false
/-- a list of bytes that grows, and others that lie beside it -/
structure Gw (w0 cur : World) (v : Value) (l : List Nat) (ys : List (Nat × List Nat)) : Prop where
  keeps : Keeps w0 cur
  own : Own cur w0.heap.size 5 v (u8s l)
  row : ∀ y ∈ ys, Box cur y.1 5 (u8s y.2).toArray ∧ v.ownBlock ≠ some y.1
theorem Gw.keep {w0 cur u : World} {v : Value} {l : List Nat} {ys : List (Nat × List Nat)} (h : Gw w0 cur v l ys) (hk : Keeps cur u) : Gw w0 u v l ys :=
  ⟨h.keeps.trans hk, h.own.keeps hk, fun y hy => ⟨(h.row y hy).1.keeps hk, (h.row y hy).2⟩⟩
theorem Gw.less {w0 cur : World} {v : Value} {l : List Nat} {ys : List (Nat × List Nat)} (h : Gw w0 cur v l ys) : Gw w0 cur v l [] := ⟨h.keeps, h.own, by simp⟩
theorem Gw.call {w0 cur u : World} {v : Value} {l : List Nat} {ys : List (Nat × List Nat)} (h : Gw w0 cur v l ys) {g : Nat} {k : List Nat} (hk : Keeps cur u) (hb : Box u g 5 (u8s k).toArray) (hg : cur.heap.size ≤ g) : Gw w0 u v l ((g, k) :: ys) := by
  refine ⟨h.keeps.trans hk, h.own.keeps hk, fun y hy => ?_⟩
  rcases List.mem_cons.1 hy with rfl | hy
  · refine ⟨hb, fun e => ?_⟩
    have := (h.own.lt _ e).2
    simp only at this
    omega
  · exact ⟨(h.row y hy).1.keeps hk, (h.row y hy).2⟩
theorem Gw.lit {w0 cur : World} {v : Value} {l : List Nat} {ys : List (Nat × List Nat)} (h : Gw w0 cur v l ys) (c : Array Value) (k : List Nat) (hc : c = (u8s k).toArray) : Gw w0 (cur.alloc (.cells c 5)) v l ((cur.heap.size, k) :: ys) := by
  subst hc
  exact h.call ((Keeps.refl cur).alloc _) (Box.new cur 5 _) (Nat.le_refl _)
theorem own_lit (w : World) (base g : Nat) (c : Array Value) (k : List Nat) (n : Nat) (h : Box w g 5 c) (hc : c = (u8s k).toArray) (hn : n = k.length) (hb : base ≤ g) (hk : k.length ≤ 1000) : Own w base 5 (.slice (some ⟨g, 0, none⟩) n n) (u8s k) := by
  subst hc
  subst hn
  refine ⟨by simp, .inr ⟨g, k.length, (u8s k).toArray, by rw [u8s_len], hb, h, by rw [u8s_len]; exact Nat.le_refl _, by unfold maxLen; omega, by simp [u8s], ?_⟩⟩
  simp [u8s]
  exact List.take_of_length_le (by simp)
theorem run_appG (o : Oper) {w0 cur : World} {v : Value} {l k : List Nat} {ys : List (Nat × List Nat)} {g n : Nat} (hR : Gw w0 cur v l ys) (hy : (g, k) ∈ ys) (hn : n = k.length) (hlen : l.length + k.length ≤ 1000000) :
    ∃ v' w', (Builtin.append_ #[61, 61] o.type #[v, .slice (some ⟨g, 0, none⟩) n n]).run Try.prog cur = .ok v' w' ∧ Gw w0 w' v' (l ++ k) ys ∧ ∀ B, GrB B cur w' v v' := by
  obtain ⟨i, hi, hz0, hz1, hz2⟩ := info_parts infoU8q
  obtain ⟨hbx, hno⟩ := hR.row _ hy
  subst hn
  simp only at hbx hno
  obtain ⟨v', w', hr, hown', hg, -, hat⟩ := run_append_own_at (P := Try.prog) cur w0.heap.size 61 o.type 5 i _ 1 1 Try.underlying61 hi hz0 hz1 hz2 rfl (by decide) v (u8s l).length (u8s l) hR.own ⟨g, 0, none⟩ k.length k.length (u8s k) (by rw [u8s_len]; omega) (fun j u hj => by
      have hc := hbx.cell j u (by simpa using hj)
      by_cases hj0 : j = 0
      · subst hj0; simpa [Addr.add] using hc
      · simpa [Addr.add, hj0] using hc) (fun u hu => by
      simp only [u8s, List.mem_map] at hu
      obtain ⟨z, -, rfl⟩ := hu
      rfl) (by rw [u8s_len]; unfold maxLen; omega) (by rw [u8s_len]; omega) hR.keeps.size
  have hO : Own w' w0.heap.size 5 v' (u8s (l ++ k)) := by
    unfold Own
    rw [u8s_app, List.length_append, u8s_len k]
    exact hown'
  refine ⟨v', w', hr, ⟨hR.keeps.below ((Below.refl w0.heap.size cur).grown hg hR.keeps.size (fun k hk => (hR.own.lt k hk).1)) (Nat.le_refl _), hO, fun y hy => ?_⟩, fun B => GrB.grown hg hat⟩
  obtain ⟨h1, h2⟩ := hR.row y hy
  refine ⟨(hg.block y.1 h1.lt (fun e => h2 e.symm)).trans h1, fun e => ?_⟩
  rcases hat with h3 | h3
  · exact h2 (by rw [← h3]; exact e)
  · rw [h3] at e
    have := h1.lt
    simp only [Option.some.injEq] at e
    omega
theorem step_appG {ops : Array Oper} {o : Oper} {a : Act} {K : Act → World → Prop} {Q : Exit → Act → World → Prop} {E : Prop} (hgd : o.guard = none) (s x : Operand)
    (ho : o.op = .call { callee := .builtin .append, args := #[s, x], argTypes := #[61, 61] })
    {w0 cur : World} {v : Value} {l k : List Nat} {ys : List (Nat × List Nat)} {g n : Nat} (hs : a.eval s = v) (hx : a.eval x = .slice (some ⟨g, 0, none⟩) n n) (hR : Gw w0 cur v l ys) (hy : (g, k) ∈ ys) (hn : n = k.length) (hlen : l.length + k.length ≤ 1000000)
    (h : ∀ v' w', Gw w0 w' v' (l ++ k) ys → (∀ B, GrB B cur w' v v') → K (a.put o.dst v') w') :
    if Region.wanted o (yielded ops a.tmps) = true then Oper.wp Try.prog o a cur K Q else E := by
  have hw : Region.wanted o (yielded ops a.tmps) = true := by simp [Region.wanted, hgd]
  rw [if_pos hw]
  obtain ⟨v', w', hr, h1, h2⟩ := run_appG o hR hy hn hlen
  unfold Oper.wp execOp
  simp only [ho, resolve, invoke, builtin, Sem.run_bind, Sem.run_pure, Result.andThen_ok, List.map_toArray, List.map_cons, List.map_nil, hs, hx, hr]
  exact h v' w' h1 h2
theorem wpList_appG {ops : Array Oper} {rest : List Oper} {o : Oper} {a : Act} {Q : Exit → Act → World → Prop} (hgd : o.guard = none) (s x : Operand)
    (ho : o.op = .call { callee := .builtin .append, args := #[s, x], argTypes := #[61, 61] })
    {w0 cur : World} {v : Value} {l k : List Nat} {ys : List (Nat × List Nat)} {g n : Nat} (hs : a.eval s = v) (hx : a.eval x = .slice (some ⟨g, 0, none⟩) n n) (hR : Gw w0 cur v l ys) (hy : (g, k) ∈ ys) (hn : n = k.length) (hlen : l.length + k.length ≤ 1000000)
    (h : ∀ v' w', Gw w0 w' v' (l ++ k) ys → (∀ B, GrB B cur w' v v') → wpList Try.prog ops Q rest (a.put o.dst v') w') : wpList Try.prog ops Q (o :: rest) a cur := by
  refine wpList_plain hgd fun K hK => ?_
  obtain ⟨v', w', hr, h1, h2⟩ := run_appG o hR hy hn hlen
  unfold Oper.wp execOp
  simp only [ho, resolve, invoke, builtin, Sem.run_bind, Sem.run_pure, Result.andThen_ok, List.map_toArray, List.map_cons, List.map_nil, hs, hx, hr]
  exact hK _ _ (h v' w' h1 h2)
/-- a number's bytes, the last j of k -/
def numTo (n k j : Nat) : List Nat := (List.range k).map fun i => if k - j ≤ i then n / 256 ^ (k - 1 - i) % 256 else 0
theorem numTo_len (n k j : Nat) : (numTo n k j).length = k := by simp [numTo]
theorem numTo_zero (n k : Nat) : numTo n k 0 = List.replicate k 0 := by
  apply List.ext_getElem
  · simp [numTo]
  · intro i h1 h2
    simp [numTo] at h1 ⊢
    intro h; omega
theorem numTo_succ (n k j : Nat) (h : j < k) : (numTo n k j).set (k - 1 - j) (n / 256 ^ j % 256) = numTo n k (j + 1) := by
  apply List.ext_getElem
  · simp [numTo]
  · intro i h1 h2
    simp only [List.length_set, numTo_len] at h1
    rw [List.getElem_set]
    by_cases e : k - 1 - j = i
    · rw [if_pos e]
      simp only [numTo, List.getElem_map, List.getElem_range]
      rw [if_pos (by omega), show k - 1 - i = j by omega]
    · rw [if_neg e]
      simp only [numTo, List.getElem_map, List.getElem_range]
      by_cases h3 : k - j ≤ i
      · rw [if_pos h3, if_pos (by omega)]
      · rw [if_neg h3, if_neg (by omega)]
theorem numTo_4 (n : Nat) : numTo n 4 4 = be4 n := by simp [numTo, be4, List.range, List.range.loop]
theorem numTo_3 (n : Nat) (h : n < 16777216) : numTo n 3 3 = ones [(n : Int) / 65536, (n : Int) / 256, (n : Int)] 3 := by
  simp [numTo, ones, List.range, List.range.loop]
  omega
set_option maxRecDepth 100000 in
set_option maxHeartbeats 1000000 in
theorem num_any (n k : Nat) (w : World) (hn : n < 9223372036854775808) (h1 : 1 ≤ k) (h8 : k ≤ 7) :
    Calls Try.prog 91 #[.int .i64 n, .int .i64 k] w fun e w' => e = .returned (.slice (some ⟨w.heap.size, 0, none⟩) k k) ∧ Blk w' .u8 5 w.heap.size (numTo n k k) ∧ Keeps w w' := by
  have hmk := fun w' : World => run_make_zeros 61 5 1 .u8 Try.underlying61 infoU8q k (k : Int) rfl (by omega) (by omega) w'
  have HK := Lib.hid ((Keeps.refl w).alloc (.cells (zeros .u8 k) 5))
  have HZ := Lib.hid (Blk.zeros w .u8 5 k)
  go_enter Try.func91, Try.ntmps91
  go_wp2_with fail
  go_loopw [0, 6] (fun x i wr => ∃ j : Nat, j ≤ k ∧ i = .int .i64 ((k : Int) - 1 - j) ∧ x = .int .i64 (n / 256 ^ j : Nat) ∧ Hid (Blk wr .u8 5 w.heap.size (numTo n k j)) ∧ Hid (Keeps w wr)) (fun _ i _ => (intOf i + 1).toNat)
  case atStart => exact ⟨0, by omega, by simp, by simp, by rw [numTo_zero]; exact HZ, HK⟩
  case round =>
    clear HZ HK
    obtain ⟨j, hj, rfl, rfl, HZ, HK⟩ := hrel
    obtain ⟨Y, hY⟩ : ∃ Y, n / 256 ^ j = Y := ⟨_, rfl⟩
    have hS := numTo_succ n k j
    have hY2 : n / 256 ^ (j + 1) = Y / 256 := by rw [Nat.pow_succ, ← Nat.div_div_eq_div_mul, hY]
    have hY3 : Y < 9223372036854775808 := by rw [← hY]; exact Nat.lt_of_le_of_lt (Nat.div_le_self _ _) hn
    rw [hY] at hS ⊢
    have HY2 := Lib.hid hY2
    have HS := Lib.hid hS
    clear hY hY2 hS
    by_cases hlt : j < k
    · have hzl := HZ.out.lt
      have hzf := HZ.out.frozen
      have hzc := HZ.out.cell (k - 1 - j) (by rw [numTo_len]; omega)
      have hi0 : (0 : Int) ≤ (k : Int) - 1 - j := by omega
      have hi1 : (k : Int) - 1 - j < k := by omega
      have hi2 : ((k : Int) - 1 - j).toNat = k - 1 - j := by omega
      have hd1 : decide ((k : Int) - 1 - j < 0) = false := by simp; omega
      have hu : IntKind.u8.wrap (Y : Int) = ((Y % 256 : Nat) : Int) := by simp [IntKind.wrap, IntKind.bits, IntKind.signed]
      go_wp2_with fail
      go_roundw
      case rel => exact ⟨j + 1, by omega, by go_num, by rw [HY2.out]; go_num, Lib.hid (by rw [← HS.out hlt]; exact HZ.out.put _ _ _ (by omega)), Lib.hid (HK.out.setCell (Nat.le_refl _) _)⟩
      case measure => simp [intOf]; omega
    · obtain rfl : j = k := by omega
      have hd1 : decide ((j : Int) - 1 - j < 0) = true := by simp; omega
      go_wp2_with fail
      go_ret
      exact ⟨rfl, HZ.out, HK.out⟩
theorem Blk.box8 {w : World} {g : Nat} {l : List Nat} (h : Blk w .u8 5 g l) : Box w g 5 (u8s l).toArray := h
theorem num4_any (n : Nat) (w : World) (hn : n < 9223372036854775808) :
    Calls Try.prog 91 #[.int .i64 n, .int .i64 4] w fun e w' => e = .returned (.slice (some ⟨w.heap.size, 0, none⟩) 4 4) ∧ Box w' w.heap.size 5 (u8s (be4 n)).toArray ∧ Keeps w w' := by
  have := num_any n 4 w hn (by decide) (by decide)
  rw [numTo_4] at this
  exact this
theorem num3_any (n : Nat) (w : World) (hn : n < 16777216) :
    Calls Try.prog 91 #[.int .i64 n, .int .i64 3] w fun e w' => e = .returned (.slice (some ⟨w.heap.size, 0, none⟩) 3 3) ∧ Box w' w.heap.size 5 (u8s (ones [(n : Int) / 65536, (n : Int) / 256, (n : Int)] 3)).toArray ∧ Keeps w w' := by
  have := num_any n 3 w (by omega) (by decide) (by decide)
  rw [numTo_3 n hn] at this
  exact this
theorem or_new8_fin : ∀ k : Fin 8, ∀ c : Fin 256, c.val < 2 ^ k.val → bits .or .u8 (c.val : Int) (2 ^ k.val) = ((c.val + 2 ^ k.val : Nat) : Int) := by decide +kernel
theorem or_new8 (k c : Nat) (hk : k < 8) (hc : c < 2 ^ k) : bits .or .u8 (c : Int) (2 ^ k) = ((c + 2 ^ k : Nat) : Int) := by
  have : c < 256 := Nat.lt_of_lt_of_le hc (Nat.pow_le_pow_right (by decide) (by omega) : _ ≤ 2 ^ 8)
  exact or_new8_fin ⟨k, hk⟩ ⟨c, this⟩ hc
theorem pow_mod8_fin : ∀ k : Fin 8, (2 : Int) ^ k.val % 256 = 2 ^ k.val := by decide +kernel
theorem pow_mod8 (k : Nat) (hk : k < 8) : (2 : Int) ^ k % 256 = 2 ^ k := pow_mod8_fin ⟨k, hk⟩
set_option maxRecDepth 100000 in
set_option maxHeartbeats 1000000 in
theorem rtruths_any (z : Value) (bs : List Bool) (w : World) (hz : Bools w z bs) (h8 : bs.length ≤ 8) :
    Calls Try.prog 92 #[z] w fun e w' => e = .returned (.int .u8 (truTo bs bs.length : Nat)) ∧ w' = w := by
  obtain ⟨a, cap, rfl, hcap, hmax, hrow⟩ := hz.shape
  have HR := Lib.hid hrow
  clear hz hrow
  go_enter Try.func92, Try.ntmps92
  go_wp2_with fail
  go_loop [3, 4] (fun c i => ∃ k : Nat, k ≤ bs.length ∧ i = .int .i64 k ∧ c = .int .u8 (truTo bs k : Nat)) (fun _ i => bs.length - (intOf i).toNat)
  case atStart => exact ⟨0, by omega, rfl, rfl⟩
  case round =>
    obtain ⟨k, hk, rfl, rfl⟩ := hrel
    have hlt2 := truTo_lt bs k
    by_cases hlt : k < bs.length
    · obtain ⟨b, off, rfl, hcell, hbl⟩ := HR.out.boolAt (by omega)
      have hc := hcell k hlt
      have HS := Lib.hid (show truTo bs (k + 1) = truTo bs k + cond (bs.getD k false) (2 ^ k) 0 from rfl)
      obtain ⟨C, hC⟩ : ∃ C, C = truTo bs k := ⟨_, rfl⟩
      rw [← hC] at HS hlt2 ⊢
      clear hcell hC
      have hd1 : decide ((k : Int) < bs.length) = true := by simp; omega
      have hd2 : decide (k < bs.length) = true := by simp; omega
      have hd3 : decide ((k : Int) < 8) = true := by simp; omega
      have hd4 : decide (k < 8) = true := by simp; omega
      have hw8 := pow_mod8 k (by omega)
      have ho8 := or_new8 k C (by omega) hlt2
      cases hx : bs.getD k false
      · rw [hx] at hc HS
        go_wp2_with fail
        go_round
        case rel => exact ⟨k + 1, by omega, by go_num, by rw [HS.out]; rfl⟩
        case measure => simp [intOf]; omega
      · rw [hx] at hc HS
        go_wp2_with fail
        go_round
        case rel => exact ⟨k + 1, by omega, by go_num, by rw [HS.out]; go_num⟩
        case measure => simp [intOf]; omega
    · obtain rfl : k = bs.length := by omega
      have hd1 : decide ((bs.length : Int) < bs.length) = false := by simp
      have hd2 : decide (bs.length < bs.length) = false := by simp
      go_wp2_with fail
      go_ret
      exact ⟨rfl, rfl⟩
set_option maxRecDepth 100000 in
set_option maxHeartbeats 1000000 in
theorem rsum7_any (a : Option Addr) (cap : Nat) (l : List Nat) (w : World) (hr : RowV w a l.length (u8s l)) (hc : l.length ≤ cap) (hc2 : cap ≤ 9223372036854775807) (hl : l.length ≤ 512) (hb : ∀ x ∈ l, x < 256) :
    Calls Try.prog 93 #[.slice a l.length cap] w fun e w' => ∃ g, e = .returned (.slice (some ⟨g, 0, none⟩) 3 3) ∧ w.heap.size ≤ g ∧ Box w' g 5 (u8s (ones [(sumN l : Int) / 65536, (sumN l : Int) / 256, (sumN l : Int)] 3)).toArray ∧ Keeps w w' := by
  have hIn : (RB.mk (8 * l.length : Nat) a l.length cap l).In w := ⟨by simp only; omega, by simp only; omega, hc, hc2, hb, hr.row8⟩
  have hS := sumRes_bytes a cap l hl
  have hN : ((8 * l.length : Nat) : Int) = 8 * (l.length : Int) := by omega
  rw [hN] at hIn hS
  clear hN
  have HI := Lib.hid hIn
  have HK := Lib.hid (((Keeps.refl w).alloc (.cells #[.int .i64 (8 * (l.length : Int)), .slice a l.length cap] 108)).alloc (.cells #[.int .i64 (8 * (l.length : Int)), .slice a l.length cap] 108))
  have hB := Box.new (w.alloc (.cells #[.int .i64 (8 * (l.length : Int)), .slice a l.length cap] 108)) 108 #[.int .i64 (8 * (l.length : Int)), .slice a l.length cap]
  rw [World.size_alloc] at hB
  have HB := Lib.hid hB
  have HS := Lib.hid hS
  have hs24 := sumN_lt l
  obtain ⟨s, hs⟩ : ∃ s, s = sumN l := ⟨_, rfl⟩
  rw [← hs] at HS hs24 ⊢
  clear hIn hr hb hS hB hs
  go_enter Try.func93, Try.ntmps93
  go_wp2_with fail
  with_reducible refine (rsum_any _ 1 1 [⟨(8 * (l.length : Int)), a, l.length, cap, l⟩] _ (by exact RBs.one' HB.out (HI.out.keeps HK.out))).mono ?_
  rw [HS.out]
  rintro e w1 ⟨rfl, hk1⟩
  have HK1 := Lib.hid (HK.out.trans hk1)
  clear hk1
  go_wp2_with fail
  with_reducible refine (num3_any s _ hs24).mono ?_
  rintro e w2 ⟨rfl, hb2, hk2⟩
  have HB2 := Lib.hid hb2
  have HK2 := Lib.hid (HK1.out.trans hk2)
  have hsz := HK1.out.size
  clear hb2 hk2
  go_wp2_with fail
  go_ret
  exact ⟨_, rfl, hsz, HB2.out, HK2.out⟩
end Go.Proofs.Ytmjodcackmjllaa
