/- The laws BezQuads and BezCubes, with the contracts of the reference's curves. -/
import Derived.Test.YtbmbibjidpgbnaaSl
import Derived.Test.YtbmbibjidpgbnaaNea2
import Derived.Test.YtbmbibjidpgbnaaBez4
import Derived.Test.YtbmbibjidpgbnaaBez3
import Derived.Test.YtbmbibjidpgbnaaNea3
import Derived.StillTailTactics
import Derived.Test.YtbmbibjidpgbnaaSta
import Derived.Test.YtbmbibjidpgbnaaThr4
namespace Go.Proofs.Ytbmbibjidpgbnaa
open Go.RowKit

def noI (u : Value) : Prop := ∀ kk z, u ≠ .int kk z
def NoInt (w : World) (v : Value) : Prop := ∀ g, v.ownBlock = some g → ∀ j u, w.cell? ⟨g, j, none⟩ = some u → noI u
theorem NoInt.nil (w : World) : NoInt w (.slice none 0 0) := fun g h => by cases h
theorem zero_noI {z : Array Value} {n : Nat} (hz : ∀ u ∈ z.toList, noI u) (hs : 0 < z.size) : ∀ u ∈ (Builtin.zeroCells z n).toList, noI u := by
  intro u hu
  simp only [Builtin.zeroCells, Array.toList_map, List.mem_map] at hu
  obtain ⟨i, _, rfl⟩ := hu
  have hlt : i % z.size < z.size := Nat.mod_lt _ hs
  rw [getElem!_pos z _ hlt]
  exact hz _ (Array.getElem_mem_toList hlt)
theorem new_noI {w : World} {cs : Array Value} {e : TypeId} {n c : Nat} (h : ∀ u ∈ cs.toList, noI u) : NoInt (w.drew.alloc (.cells cs e)) (.slice (some ⟨w.heap.size, 0, none⟩) n c) := by
  intro g hg j u hu
  obtain rfl : w.heap.size = g := by simpa [Value.ownBlock] using hg
  have hc : (w.drew.alloc (.cells cs e)).cell? ⟨w.heap.size, j, none⟩ = cs[j]? := cell_of_row _ _ j cs e (0, 0) (heap_alloc_new w.drew _)
  rw [hc] at hu
  exact h u (Array.mem_toList_iff.2 (Array.mem_of_getElem? hu))
theorem app_ni {P : Program} (w : World) (base : Nat) (t ty e : TypeId) (i : TypeInfo) (z : Value) (size bytes : Nat) (ht : P.underlying t = some (.slice e)) (hi : P.info? e = some i) (hz : i.zero = some z)
    (hsize : i.size = size) (hby : i.bytes = bytes) (hzs : z.cells.size = size) (hsz : 0 < size)
    (v : Value) (n : Nat) (xs : List Value) (hown : w.ownsRow base e size v n xs)
    (a : Addr) (c : Nat) (news : List Value) (hl : news.length = 1 * size) (hnews : ∀ j u, news[j]? = some u → w.cell? (a.add j) = some u) (h1 : ∀ u ∈ news, u.oneCell' = true)
    (h63 : n + 1 ≤ maxLen) (hbytes : (n + 1) * bytes ≤ 140737488355328) (hbase : base ≤ w.heap.size) (hni : NoInt w v) (hzi : ∀ u ∈ z.cells.toList, noI u) (hnn : ∀ u ∈ news, noI u) :
    ∃ v' w', (Builtin.append_ #[t, t] ty #[v, .slice (some a) 1 c]).run P w = .ok v' w' ∧ w'.ownsRow base e size v' (n + 1) (xs ++ news) ∧ w.grownBy w' v.ownBlock ∧ NoInt w' v' := by
  obtain ⟨v', w', hr, h2, h3, _⟩ := run_append_own (P := P) w base t ty e i z size bytes ht hi hz hsize hby hzs hsz v n xs hown a 1 c news hl hnews h1 h63 hbytes hbase
  refine ⟨v', w', hr, h2, h3, ?_⟩
  have hsmall : n + 1 ≤ 9223372036854775807 := by simp only [maxLen] at h63; omega
  subst hsize
  subst hby
  have hzn : ∀ m, ∀ u ∈ (Builtin.zeroCells z.cells m).toList, noI u := fun m => zero_noI hzi (by omega)
  rcases hown.2 with ⟨rfl, rfl⟩ | ⟨g, cap, cur, rfl, hbg, hg, hnc, hcm, hcs, htake⟩
  · have hr' := run_append_nil (P := P) w t ty e i z ht hi hz a 1 c news hl hnews (by omega) (by omega) (by have hb := hbytes; simp only [Nat.zero_add] at hb; omega)
    rw [hr] at hr'
    injection hr' with e1 e2
    subst e1 e2
    refine new_noI fun u hu => ?_
    simp only [Array.toList_append, List.mem_append] at hu
    rcases hu with h | h
    · exact hnn u h
    · exact hzn _ u h
  · have hcur : ∀ u ∈ cur.toList, noI u := by
      intro u hu
      obtain ⟨j, hj, rfl⟩ := List.mem_iff_getElem.1 hu
      have hc := cell_of_row w g j cur e (0, 0) hg
      refine hni g rfl j _ (hc.trans ?_)
      simp at hj
      simp [hj]
    by_cases hroom : n + 1 ≤ cap
    · have hfit : n * i.size + news.length ≤ cur.size := by rw [hl, hcs, ← Nat.add_mul]; exact Nat.mul_le_mul_right _ hroom
      have hr' := run_append_room (P := P) w t ty e i ht hi g n cap cur hg a 1 c news hl hnews h1 hroom hfit
      rw [hr] at hr'
      injection hr' with e1 e2
      subst e1 e2
      intro g' hg' j u hu
      obtain rfl : g = g' := by simpa [Value.ownBlock] using hg'
      rw [cell_of_row _ _ j _ e (0, 0) (setRow_heap w g cur _ e _ hg)] at hu
      have hm := Array.mem_toList_iff.2 (Array.mem_of_getElem? hu)
      simp only [List.mem_append] at hm
      rcases hm with (h | h) | h
      · exact hcur u (List.mem_of_mem_take h)
      · exact hnn u h
      · exact hcur u (List.mem_of_mem_drop h)
    · have holds : ∀ j u, xs[j]? = some u → w.cell? ((⟨g, 0, none⟩ : Addr).add j) = some u := hown.cells (g := g) rfl
      have hr' := run_append_grow (P := P) w t ty e i z ht hi hz ⟨g, 0, none⟩ n cap xs hown.1 holds a 1 c news hl hnews (by omega) (by omega) (growslice_fits (by omega) hbytes)
      rw [hr] at hr'
      injection hr' with e1 e2
      subst e1 e2
      refine new_noI fun u hu => ?_
      simp only [Array.toList_append, List.mem_append] at hu
      rcases hu with (h | h) | h
      · exact hcur u (List.mem_of_mem_take (by rw [htake]; exact h))
      · exact hnn u h
      · exact hzn _ u h
theorem wpList_ni {P : Program} {ops : Array Oper} {rest : List Oper} {o : Oper} {a : Act} {Q : Exit → Act → World → Prop} {w0 : World} (hgd : o.guard = none) (s x : Operand) (t : TypeId)
    (ho : o.op = .call { callee := .builtin .append, args := #[s, x], argTypes := #[t, t] })
    (base : Nat) (e : TypeId) (i : TypeInfo) (z : Value) (size bytes : Nat) (cs : List Value) (ht : P.underlying t = some (.slice e)) (hi : P.info? e = some i) (hz : i.zero = some z)
    (hsize : i.size = size) (hby : i.bytes = bytes) (hcs : cs.length = size) (hzs : z.cells.size = size) (hsz : 0 < size)
    (v : Value) (n : Nat) (xs : List Value) (hs : a.eval s = v) (hown : w0.ownsRow base e size v n xs)
    (hx : a.eval x = .slice (some ⟨w0.heap.size, 0, none⟩) 1 1) (h1 : ∀ u ∈ cs, u.oneCell' = true)
    (h63 : n + 1 ≤ maxLen) (hbytes : (n + 1) * bytes ≤ 140737488355328) (hbase : base ≤ w0.heap.size) (hni : NoInt w0 v) (hzi : ∀ u ∈ z.cells.toList, noI u) (hnn : ∀ u ∈ cs, noI u)
    (h : ∀ g cap w', w'.ownsRow base e size (.slice (some ⟨g, 0, none⟩) (n + 1) cap) (n + 1) (xs ++ cs) → Below base w0 w' → w0.grownBy w' v.ownBlock → NoInt w' (.slice (some ⟨g, 0, none⟩) (n + 1) cap) → wpList P ops Q rest (a.put o.dst (.slice (some ⟨g, 0, none⟩) (n + 1) cap)) w') :
    wpList P ops Q (o :: rest) a (w0.alloc (.cells cs.toArray e)) := by
  have own1 := hown.alloc (.cells cs.toArray e)
  have ni1 : NoInt (w0.alloc (.cells cs.toArray e)) v := by
    intro g hg j u hu
    have hlt := (hown.lt g hg).2
    rw [((Below.refl _ w0).alloc (Nat.le_refl _) (.cells cs.toArray e)).cell (p := ⟨g, j, none⟩) hlt] at hu
    exact hni g hg j u hu
  obtain ⟨v', w', hr, h2, h3, h4⟩ := app_ni (P := P) (w0.alloc (.cells cs.toArray e)) base t o.type e i z size bytes ht hi hz hsize hby hzs hsz v n xs own1 ⟨w0.heap.size, 0, none⟩ 1 cs (by simp [hcs]) (news_at w0 cs e) h1 h63 hbytes (by simp; omega) ni1 hzi hnn
  refine wpList_plain hgd fun K hK => ?_
  unfold Oper.wp execOp
  simp only [ho, resolve, invoke, builtin, Sem.run_bind, Sem.run_pure, Result.andThen_ok, List.map_toArray, List.map_cons, List.map_nil, hs, hx, hr]
  have hb := ((Below.refl base w0).alloc hbase (.cells cs.toArray e)).grown h3 (by simp; omega) (fun k hk => (hown.lt k hk).1)
  have hg : w0.grownBy w' v.ownBlock := ⟨h3.os, h3.tape, h3.output, Nat.le_trans (by simp) h3.size, fun k hk hne => (h3.block k (by simp; omega) hne).trans (Below.heap_alloc w0 _ k hk)⟩
  rcases h2.2 with ⟨_, hn⟩ | ⟨g, cap, _, hv, _⟩
  · omega
  · subst hv
    exact hK _ _ (h g cap w' h2 hb hg h4)
theorem step_ni {P : Program} {ops : Array Oper} {o : Oper} {a : Act} {K : Act → World → Prop} {Q : Exit → Act → World → Prop} {E : Prop} {w0 : World} (hgd : o.guard = none) (s x : Operand) (t : TypeId)
    (ho : o.op = .call { callee := .builtin .append, args := #[s, x], argTypes := #[t, t] })
    (base : Nat) (e : TypeId) (i : TypeInfo) (z : Value) (size bytes : Nat) (cs : List Value) (ht : P.underlying t = some (.slice e)) (hi : P.info? e = some i) (hz : i.zero = some z)
    (hsize : i.size = size) (hby : i.bytes = bytes) (hcs : cs.length = size) (hzs : z.cells.size = size) (hsz : 0 < size)
    (v : Value) (n : Nat) (xs : List Value) (hs : a.eval s = v) (hown : w0.ownsRow base e size v n xs)
    (hx : a.eval x = .slice (some ⟨w0.heap.size, 0, none⟩) 1 1) (h1 : ∀ u ∈ cs, u.oneCell' = true)
    (h63 : n + 1 ≤ maxLen) (hbytes : (n + 1) * bytes ≤ 140737488355328) (hbase : base ≤ w0.heap.size) (hni : NoInt w0 v) (hzi : ∀ u ∈ z.cells.toList, noI u) (hnn : ∀ u ∈ cs, noI u)
    (h : ∀ g cap w', w'.ownsRow base e size (.slice (some ⟨g, 0, none⟩) (n + 1) cap) (n + 1) (xs ++ cs) → Below base w0 w' → w0.grownBy w' v.ownBlock → NoInt w' (.slice (some ⟨g, 0, none⟩) (n + 1) cap) → K (a.put o.dst (.slice (some ⟨g, 0, none⟩) (n + 1) cap)) w') :
    if Region.wanted o (yielded ops a.tmps) = true then Oper.wp P o a (w0.alloc (.cells cs.toArray e)) K Q else E := by
  have hw : Region.wanted o (yielded ops a.tmps) = true := by simp [Region.wanted, hgd]
  rw [if_pos hw]
  have own1 := hown.alloc (.cells cs.toArray e)
  have ni1 : NoInt (w0.alloc (.cells cs.toArray e)) v := by
    intro g hg j u hu
    have hlt := (hown.lt g hg).2
    rw [((Below.refl _ w0).alloc (Nat.le_refl _) (.cells cs.toArray e)).cell (p := ⟨g, j, none⟩) hlt] at hu
    exact hni g hg j u hu
  obtain ⟨v', w', hr, h2, h3, h4⟩ := app_ni (P := P) (w0.alloc (.cells cs.toArray e)) base t o.type e i z size bytes ht hi hz hsize hby hzs hsz v n xs own1 ⟨w0.heap.size, 0, none⟩ 1 cs (by simp [hcs]) (news_at w0 cs e) h1 h63 hbytes (by simp; omega) ni1 hzi hnn
  unfold Oper.wp execOp
  simp only [ho, resolve, invoke, builtin, Sem.run_bind, Sem.run_pure, Result.andThen_ok, List.map_toArray, List.map_cons, List.map_nil, hs, hx, hr]
  have hb := ((Below.refl base w0).alloc hbase (.cells cs.toArray e)).grown h3 (by simp; omega) (fun k hk => (hown.lt k hk).1)
  have hg : w0.grownBy w' v.ownBlock := ⟨h3.os, h3.tape, h3.output, Nat.le_trans (by simp) h3.size, fun k hk hne => (h3.block k (by simp; omega) hne).trans (Below.heap_alloc w0 _ k hk)⟩
  rcases h2.2 with ⟨_, hn⟩ | ⟨g, cap, _, hv, _⟩
  · omega
  · subst hv
    exact h g cap w' h2 hb hg h4
theorem step_app {P : Program} {ops : Array Oper} {o : Oper} {a : Act} {K : Act → World → Prop} {Q : Exit → Act → World → Prop} {E : Prop} {w0 : World} (hgd : o.guard = none) (s x : Operand) (t : TypeId)
    (ho : o.op = .call { callee := .builtin .append, args := #[s, x], argTypes := #[t, t] })
    (base : Nat) (e : TypeId) (i : TypeInfo) (z : Value) (size bytes : Nat) (cs : List Value) (ht : P.underlying t = some (.slice e)) (hi : P.info? e = some i) (hz : i.zero = some z)
    (hsize : i.size = size) (hby : i.bytes = bytes) (hcs : cs.length = size) (hzs : z.cells.size = size) (hsz : 0 < size)
    (v : Value) (n : Nat) (xs : List Value) (hs : a.eval s = v) (hown : w0.ownsRow base e size v n xs)
    (hx : a.eval x = .slice (some ⟨w0.heap.size, 0, none⟩) 1 1) (h1 : ∀ u ∈ cs, u.oneCell' = true)
    (h63 : n + 1 ≤ maxLen) (hbytes : (n + 1) * bytes ≤ 140737488355328) (hbase : base ≤ w0.heap.size)
    (h : ∀ g cap w', w'.ownsRow base e size (.slice (some ⟨g, 0, none⟩) (n + 1) cap) (n + 1) (xs ++ cs) → Below base w0 w' → w0.grownBy w' v.ownBlock → K (a.put o.dst (.slice (some ⟨g, 0, none⟩) (n + 1) cap)) w') :
    if Region.wanted o (yielded ops a.tmps) = true then Oper.wp P o a (w0.alloc (.cells cs.toArray e)) K Q else E := by
  have hw : Region.wanted o (yielded ops a.tmps) = true := by simp [Region.wanted, hgd]
  rw [if_pos hw]
  refine wp_append_own (w := w0.alloc (.cells cs.toArray e)) s x t ho base e i z size bytes ht hi hz hsize hby hzs hsz v n xs hs (hown.alloc _) ⟨w0.heap.size, 0, none⟩ 1 1 cs hx (by simp [hcs]) (news_at w0 cs e) h1 h63 hbytes (by simp; omega) fun v' w' h2 h3 _ => ?_
  have hb := ((Below.refl base w0).alloc hbase (.cells cs.toArray e)).grown h3 (by simp; omega) (fun k hk => (hown.lt k hk).1)
  have hg : w0.grownBy w' v.ownBlock := ⟨h3.os, h3.tape, h3.output, Nat.le_trans (by simp) h3.size, fun k hk hne => (h3.block k (by simp; omega) hne).trans (Below.heap_alloc w0 _ k hk)⟩
  have h2' := h2
  rcases h2.2 with ⟨_, hn⟩ | ⟨g, cap, _, hv, _⟩
  · omega
  · subst hv
    exact h g cap w' h2' hb hg
theorem Rd.grown {k : IntKind} {w w' : World} {v u : Value} {l : List Nat} (h : Rd k w v l) (hg : w.grownBy w' u.ownBlock) (hn : NoInt w u) : Rd k w' v l := by
  obtain ⟨a, cap, hv, hl, hc⟩ := h
  refine ⟨a, cap, hv, hl, fun h0 => ?_⟩
  obtain ⟨g, off, ha, hcc⟩ := hc h0
  refine ⟨g, off, ha, fun j hj => hg.cell (hcc j hj) fun e => ?_⟩
  exact hn g e.symm _ _ (hcc j hj) _ _ rfl
end Go.Proofs.Ytbmbibjidpgbnaa
namespace Go.Proofs.Ytbmbibjidpgbnaa
open Go.RowKit

/-- r steps of neighbours, by n ^ r -/
def cas (k n : Nat) (X : Nat → Int) : Nat → Nat → Int
  | 0, j => X j
  | r + 1, j => ((n : Int) - k) * cas k n X r j + (k : Int) * cas k n X r (j + 1)
theorem pow_le {n r : Nat} (h1 : 1 ≤ n) (hn : n ≤ 32) (hr : r ≤ 3) : 0 < n ^ r ∧ n ^ r ≤ 32768 := by
  have h0 : r = 0 ∨ r = 1 ∨ r = 2 ∨ r = 3 := by omega
  refine ⟨Nat.pow_pos (by omega), ?_⟩
  have h := Nat.pow_le_pow_left hn r
  rcases h0 with rfl | rfl | rfl | rfl <;> omega
theorem pow_le2 {n r : Nat} (h1 : 1 ≤ n) (hn : n ≤ 32) (hr : r ≤ 2) : 0 < n ^ r ∧ n ^ r ≤ 1024 := by
  have h0 : r = 0 ∨ r = 1 ∨ r = 2 := by omega
  refine ⟨Nat.pow_pos (by omega), ?_⟩
  have h := Nat.pow_le_pow_left hn r
  rcases h0 with rfl | rfl | rfl <;> omega
theorem cas_le {k n m : Nat} {X : Nat → Int} (hk : k ≤ n) (hX : ∀ j, j < m → -8388607 ≤ X j ∧ X j ≤ 8388607) (r j : Nat) (hj : r + j < m) : (cas k n X r j).natAbs ≤ 8388607 * n ^ r := by
  induction r generalizing j with
  | zero => have := hX j (by omega); unfold cas; simp; omega
  | succ r ih =>
    have h1 := ih j (by omega)
    have h2 := ih (j + 1) (by omega)
    unfold cas
    obtain ⟨l, hl⟩ : ∃ l : Nat, n = l + k := ⟨n - k, by omega⟩
    have e : (n : Int) - k = (l : Int) := by omega
    rw [e]
    have t := Int.natAbs_add_le ((l : Int) * cas k n X r j) ((k : Int) * cas k n X r (j + 1))
    rw [Int.natAbs_mul, Int.natAbs_mul, Int.natAbs_natCast, Int.natAbs_natCast] at t
    have a := Nat.mul_le_mul_left l h1
    have b := Nat.mul_le_mul_left k h2
    have c : 8388607 * n ^ (r + 1) = l * (8388607 * n ^ r) + k * (8388607 * n ^ r) := by
      rw [Nat.pow_succ, ← Nat.add_mul, ← hl, Nat.mul_comm (n ^ r) n, ← Nat.mul_assoc, ← Nat.mul_assoc, Nat.mul_comm 8388607 n]
    omega
def TowOk (t p q : Rat) : Prop := AddOk q p ∧ MulOk t (q - p) ∧ AddOk p (t * (q - p))
theorem sub_mk (a b : Int) {N : Nat} : mkRat b N - mkRat a N = mkRat (b - a) N := by
  simp only [Rat.mkRat_eq_div]
  grind
theorem tow_mk (a b : Int) (k : Int) {N n : Nat} : mkRat k n * mkRat (b - a) N = mkRat (k * (b - a)) (N * n) := by
  rw [Rat.mkRat_mul_mkRat, Nat.mul_comm]
theorem tow_mk2 (a b : Int) (k n N : Nat) (hN : 0 < N) (hn : 0 < n) : mkRat a N + mkRat k n * (mkRat b N - mkRat a N) = mkRat (((n : Int) - k) * a + (k : Int) * b) (N * n) := by
  have h1 : (N : Rat) ≠ 0 := by simp; omega
  have h2 : (n : Rat) ≠ 0 := by simp; omega
  simp only [Rat.mkRat_eq_div]
  push_cast
  grind
theorem towOk {a b : Int} {k n N : Nat} (hN : 0 < N ∧ N ≤ 1024) (hk : k ≤ n) (hn : 0 < n ∧ n ≤ 32) (ha : a.natAbs ≤ 8589933568) (hb : b.natAbs ≤ 8589933568) : TowOk (mkRat k n) (mkRat a N) (mkRat b N) := by
  have ma := mk_le a hN.1
  have mb := mk_le b hN.1
  have mt := mk_le (k : Int) hn.1
  have md := mk_le (b - a) hN.1
  have me := mk_le ((k : Int) * (b - a)) (show 0 < N * n from Nat.mul_pos hN.1 hn.1)
  have hd : (b - a).natAbs ≤ 17179867136 := by omega
  have hkd : ((k : Int) * (b - a)).natAbs ≤ 32 * 17179867136 := by
    rw [Int.natAbs_mul]
    exact Nat.mul_le_mul (by omega) hd
  have hNn : N * n ≤ 1024 * 32 := Nat.mul_le_mul hN.2 hn.2
  unfold TowOk
  rw [sub_mk a b, tow_mk a b k]
  unfold AddOk MulOk Q62
  have p1 := Nat.mul_le_mul (show (mkRat b N).num.natAbs ≤ 8589933568 by omega) (show (mkRat a N).den ≤ 1024 by omega)
  have p2 := Nat.mul_le_mul (show (mkRat a N).num.natAbs ≤ 8589933568 by omega) (show (mkRat b N).den ≤ 1024 by omega)
  have p3 := Nat.mul_le_mul (show (mkRat b N).den ≤ 1024 by omega) (show (mkRat a N).den ≤ 1024 by omega)
  have p4 := Nat.mul_le_mul (show (mkRat (k : Int) n).num.natAbs ≤ 32 by omega) (show (mkRat (b - a) N).num.natAbs ≤ 17179867136 by omega)
  have p5 := Nat.mul_le_mul (show (mkRat (k : Int) n).den ≤ 32 by omega) (show (mkRat (b - a) N).den ≤ 1024 by omega)
  have p6 := Nat.mul_le_mul (show (mkRat a N).num.natAbs ≤ 8589933568 by omega) (show (mkRat ((k : Int) * (b - a)) (N * n)).den ≤ 32768 by omega)
  have p7 := Nat.mul_le_mul (show (mkRat ((k : Int) * (b - a)) (N * n)).num.natAbs ≤ 549755748352 by omega) (show (mkRat a N).den ≤ 1024 by omega)
  have p8 := Nat.mul_le_mul (show (mkRat a N).den ≤ 1024 by omega) (show (mkRat ((k : Int) * (b - a)) (N * n)).den ≤ 32768 by omega)
  refine ⟨⟨by omega, by omega⟩, ⟨by omega, by omega, by omega, by omega⟩, by omega, by omega⟩
/-- the fractions of r steps -/
def lev (k n : Nat) (X : Nat → Int) (r j : Nat) : Rat := mkRat (cas k n X r j) (n ^ r)
theorem lev_zero (k n : Nat) (X : Nat → Int) (j : Nat) : lev k n X 0 j = (X j : Rat) := by
  unfold lev cas
  simp [Rat.mkRat_eq_div]
  try grind
theorem lev_succ (k n : Nat) (X : Nat → Int) (r j : Nat) (hn : 0 < n) : lev k n X r j + mkRat k n * (lev k n X r (j + 1) - lev k n X r j) = lev k n X (r + 1) j := by
  unfold lev
  rw [tow_mk2 _ _ k n _ (Nat.pow_pos hn) hn]
  rfl
theorem lev_ok {k n m : Nat} {X : Nat → Int} (hk : k ≤ n) (hn : 0 < n ∧ n ≤ 32) (hX : ∀ j, j < m → -8388607 ≤ X j ∧ X j ≤ 8388607) (r j : Nat) (hr : r ≤ 2) (hj : r + (j + 1) < m) : TowOk (mkRat k n) (lev k n X r j) (lev k n X r (j + 1)) := by
  have hN := pow_le2 (n := n) (r := r) hn.1 hn.2 hr
  have h1 := cas_le hk hX r j (by omega)
  have h2 := cas_le hk hX r (j + 1) hj
  exact towOk hN hk hn (by omega) (by omega)
theorem lev_near {k n m : Nat} {X : Nat → Int} (hm : m = 3 ∨ m = 4) (hk : k ≤ n) (hn : 0 < n ∧ n ≤ 32) (hX : ∀ j, j < m → -8388607 ≤ X j ∧ X j ≤ 8388607) : NearOk (lev k n X (m - 1) 0) ∧ nearQ (lev k n X (m - 1) 0) = partN X m n k := by
  have hN := pow_le (n := n) (r := m - 1) hn.1 hn.2 (by omega)
  have h1 := cas_le hk hX (m - 1) 0 (by omega)
  have h2 := mk_le (cas k n X (m - 1) 0) hN.1
  constructor
  · unfold lev NearOk
    omega
  · unfold lev
    rw [near_mk _ hN.1]
    unfold partN
    congr 1
    · rcases hm with rfl | rfl
      · simp [sumW, wt, cas]
        grind
      · simp [sumW, wt, cas]
        grind
    · rcases hm with rfl | rfl
      · simp [byI]
        grind
      · simp [byI]
        grind
theorem div_mk (k n : Nat) : ((k : Int) : Rat) / ((n : Int) : Rat) = mkRat k n := (Rat.mkRat_eq_div k n).symm
theorem div_ok {k n : Nat} (hk : k ≤ n) (hn : 0 < n ∧ n ≤ 32) : DivOk ((k : Int) : Rat) ((n : Int) : Rat) := by
  unfold DivOk Q62
  simp only [Rat.num_intCast, Rat.den_intCast]
  omega
end Go.Proofs.Ytbmbibjidpgbnaa
namespace Go.Proofs.Ytbmbibjidpgbnaa
open Go.RowKit

theorem rabs_any (n : Int) (w : World) (h0 : -9000000000000000000 ≤ n) (h1 : n ≤ 9000000000000000000) : Calls Try.prog 66 #[.int .i64 n] w fun e w' => e = .returned (.int .i64 (absI n)) ∧ w = w' := by
  by_cases h : n < 0
  · have e : absI n = -n := if_pos h
    rw [e]; clear e
    go_enter Try.func66, Try.ntmps66
    go_wp2
    go_ret
    exact ⟨rfl, rfl⟩
  · have e : absI n = n := if_neg h
    rw [e]; clear e
    go_enter Try.func66, Try.ntmps66
    go_wp2
    go_ret
    exact ⟨rfl, rfl⟩
theorem bend_eq (a b c : Int) : bendI a b c = absI (a + c - 2 * b) := by
  unfold bendI
  congr 1
  omega
set_option maxRecDepth 100000 in
set_option maxHeartbeats 4000000 in
theorem rpieces_any (g off n cap : Nat) (X Y : Nat → Int) (w : World) (hn : n ≤ 1000) (h : PtAt w g off n X Y) :
    Calls Try.prog 44 #[.slice (some ⟨g, off, none⟩) n cap] w (RetPost (.int .i64 (piecesN X Y n)) w) := by
  have HH := Lib.hid h
  clear h
  have HV : Hid (fitsTo X Y n = false → piecesN X Y n = 0) := Lib.hid (fun hf => by unfold piecesN; rw [hf]; rfl)
  have HW : Hid (fitsTo X Y n = true → piecesN X Y n = pc (dTo X Y (n - 2))) := Lib.hid (fun hf => by unfold piecesN; rw [if_pos hf])
  go_enter Try.func44, Try.ntmps44
  go_wp2_with fail
  go_loopw [4] (fun i wr => ∃ k : Nat, k ≤ n ∧ i = .int .i64 k ∧ FRel X Y w k wr) (fun i _ => n - (intOf i).toNat)
  case atStart => exact ⟨0, Nat.zero_le _, rfl, rfl, Below.refl _ _⟩
  case round =>
    obtain ⟨k, hk, rfl, hf, hb⟩ := hrel
    by_cases hlt : k < n
    · obtain ⟨c0, c1⟩ := HH.out k hlt
      have d0 := cell_later hb c0
      have d1 := cell_later hb c1
      have F := Lib.hid (And.intro hf hb)
      clear c0 c1 hf hb
      obtain ⟨x, hx⟩ : ∃ x, x = X k := ⟨_, rfl⟩
      obtain ⟨y, hy⟩ : ∃ y, y = Y k := ⟨_, rfl⟩
      rw [← hx] at d0
      rw [← hy] at d1
      have HF : Hid (fits (X k) (Y k) = fits x y) := Lib.hid (by rw [hx, hy])
      clear hx hy
      have hk0 : (0 : Int) ≤ (k : Int) := by omega
      have hk3 : (k : Int) < (n : Int) := by omega
      go_wp2_with fail
      refine (rfits_any x y _).mono ?_
      rintro e w1 ⟨rfl, hw1⟩
      have hb1 : Below wr.heap.size wr w1 := by rw [hw1]; exact below_alloc _ _
      have B1 := Lib.hid (bthen F.out.2 hb1)
      clear hw1 hb1 d0 d1
      cases hfit : fits x y
      · go_wp2_with fail
        go_ret
        exact ⟨by rw [HV.out (fitsTo_lt hlt (HF.out.trans hfit))]; rfl, B1.out⟩
      · have HFF := Lib.hid hfit
        clear hfit
        go_wp2_with fail
        refine ⟨⟨k + 1, by omega, by go_num, ⟨by simp [fitsTo, HF.out, HFF.out, F.out.1], B1.out⟩⟩, by (first | (simp [intOf]; done) | (simp [intOf]; omega) | (simp only [intOf]; omega))⟩
    · obtain rfl : k = n := by omega
      have HF := Lib.hid hf
      have B0 := Lib.hid hb
      clear hf hb hk HV
      go_wp2_with fail
      go_loopw [3, 5] (fun d i wz => ∃ p : Nat, (p + 2 ≤ k ∨ p = 0) ∧ i = .int .i64 p ∧ d = .int .i64 (dTo X Y p) ∧ Below w.heap.size w wz) (fun _ i _ => k + 2 - (intOf i).toNat)
      case atStart => exact ⟨0, Or.inr rfl, rfl, rfl, B0.out⟩
      case round =>
        obtain ⟨p, hp, rfl, rfl, hb⟩ := hrel
        by_cases hlt : p + 2 < k
        · obtain ⟨c0, c1⟩ := HH.out p (by omega)
          obtain ⟨c2, c3⟩ := HH.out (p + 1) (by omega)
          obtain ⟨c4, c5⟩ := HH.out (p + 2) (by omega)
          have d0 := cell_later hb c0
          have d1 := cell_later hb c1
          have d2 := cell_later hb c2
          have d3 := cell_later hb c3
          have d4 := cell_later hb c4
          have d5 := cell_later hb c5
          clear c0 c1 c2 c3 c4 c5
          obtain ⟨a1, a2⟩ := fits_iff (fitsTo_at (k := p) (by omega) HF.out)
          obtain ⟨b1, b2⟩ := fits_iff (fitsTo_at (k := p + 1) (by omega) HF.out)
          obtain ⟨e1, e2⟩ := fits_iff (fitsTo_at (k := p + 2) (by omega) HF.out)
          have D := Lib.hid (dTo_le (p := p) (by omega) HF.out)
          have HB1 := Lib.hid hb
          clear hb
          obtain ⟨x0, hx0⟩ : ∃ x, x = X p := ⟨_, rfl⟩
          obtain ⟨x1, hx1⟩ : ∃ x, x = X (p + 1) := ⟨_, rfl⟩
          obtain ⟨x2, hx2⟩ : ∃ x, x = X (p + 2) := ⟨_, rfl⟩
          obtain ⟨y0, hy0⟩ : ∃ x, x = Y p := ⟨_, rfl⟩
          obtain ⟨y1, hy1⟩ : ∃ x, x = Y (p + 1) := ⟨_, rfl⟩
          obtain ⟨y2, hy2⟩ : ∃ x, x = Y (p + 2) := ⟨_, rfl⟩
          obtain ⟨dd, hdd⟩ : ∃ x, x = dTo X Y p := ⟨_, rfl⟩
          have hnext : dTo X Y (p + 1) = max3 dd (absI (x0 + x2 - 2 * x1)) (absI (y0 + y2 - 2 * y1)) := by subst hx0 hx1 hx2 hy0 hy1 hy2 hdd; rw [← bend_eq, ← bend_eq]; rfl
          have HN := Lib.hid hnext
          clear hnext
          rw [← hx0] at d0 a1
          rw [← hy0] at d1 a2
          rw [← hx1] at d2 b1
          rw [← hy1] at d3 b2
          rw [← hx2] at d4 e1
          rw [← hy2] at d5 e2
          rw [← hdd] at D
          rw [← hdd]
          clear hx0 hx1 hx2 hy0 hy1 hy2 hdd
          go_wp2_with fail
          go_quiet (first | (go_at_call 66; exact Calls.quiet_of_same ((rabs_any _ _ (by omega) (by omega)).mono (by rintro e w2 ⟨rfl, rfl⟩; exact ⟨rfl, rfl⟩))))
          go_wp2_with fail
          refine ⟨⟨p + 1, by omega, by go_num, by rw [HN.out]; rfl, below_drewN HB1.out _⟩, by (first | (simp [intOf]; done) | (simp [intOf]; omega) | (simp only [intOf]; omega))⟩
        · have hpn : p = k - 2 := by omega
          have D := dTo_le hp HF.out
          have HB1 := Lib.hid hb
          clear hb
          obtain ⟨dd, hdd⟩ : ∃ x, x = dTo X Y p := ⟨_, rfl⟩
          rw [← hdd] at D ⊢
          have HQ : Hid (piecesN X Y k = pc dd) := Lib.hid (by rw [HW.out HF.out, hdd, hpn])
          clear hdd hpn HW
          obtain ⟨D1, D2⟩ := D
          obtain ⟨ii, hii⟩ : ∃ ii : Int, ii = (p : Int) := ⟨_, rfl⟩
          rw [← hii]
          have hi1 : ¬ ii + 2 < (k : Int) := by omega
          have hi2 : ii ≤ 100000 := by omega
          have hi3 : 0 ≤ ii := by omega
          clear hii
          go_wp2_with fail
          go_loopw [6] (fun i wz => ∃ q : Nat, 1 ≤ q ∧ q ≤ 32 ∧ i = .int .i64 q ∧ pcFrom dd (32 - q) q = pc dd ∧ Below w.heap.size w wz) (fun i _ => 33 - (intOf i).toNat)
          case atStart => exact ⟨1, by omega, by omega, rfl, rfl, HB1.out⟩
          case round =>
            obtain ⟨q, hq1, hq2, rfl, hpc, hbz⟩ := hrel
            have HZ := Lib.hid hbz
            clear hbz
            have HZZ := Lib.hid hpc
            clear hpc
            by_cases hq : q < 32
            · have m1 := mul_bd (a := 16 * (q : Int)) (x := (q : Int)) (A := 512) (X := 32) (by omega) (by omega)
              simp only [Int.reduceMul, Int.reduceNeg] at m1
              obtain ⟨m11, m12⟩ := m1
              by_cases hd : 16 * (q : Int) * q < dd
              · have HS : Hid (pcFrom dd (32 - (q + 1)) (q + 1) = pc dd) := Lib.hid (by
                  have h := HZZ.out
                  have e : 32 - q = (32 - (q + 1)) + 1 := by omega
                  rw [e] at h
                  unfold pcFrom at h
                  rw [if_pos hd] at h
                  exact h)
                go_wp2_with fail
                refine ⟨⟨q + 1, by omega, by omega, by go_num, HS.out, HZ.out⟩, by (first | (simp [intOf]; done) | (simp [intOf]; omega) | (simp only [intOf]; omega))⟩
              · have HS : Hid (q = pc dd) := Lib.hid (by
                  have h := HZZ.out
                  have e : 32 - q = (32 - (q + 1)) + 1 := by omega
                  rw [e] at h
                  unfold pcFrom at h
                  rw [if_neg (by omega)] at h
                  exact h)
                go_wp2_with fail
                go_ret
                exact ⟨by rw [HQ.out, ← HS.out]; rfl, HZ.out⟩
            · have ek : q = 32 := by omega
              subst ek
              go_wp2_with fail
              go_ret
              refine ⟨?_, HZ.out⟩
              have h := HZZ.out
              rw [HQ.out, ← h]; rfl
end Go.Proofs.Ytbmbibjidpgbnaa
namespace Go.Proofs.Ytbmbibjidpgbnaa
open Go.RowKit

/-- a value that is a fraction -/
def Frv (w : World) (v : Value) (q : Rat) : Prop := ∃ b p1 n1 c1 p2 n2 c2, v = .agg #[.bool b, .slice p1 n1 c1, .slice p2 n2 c2] ∧ Frp w b (.slice p1 n1 c1) (.slice p2 n2 c2) q
theorem Frv.later {w w1 : World} {v : Value} {q : Rat} (h : Frv w v q) (hb : Below w.heap.size w w1) : Frv w1 v q := by
  obtain ⟨b, p1, n1, c1, p2, n2, c2, hv, hf⟩ := h
  exact ⟨b, p1, n1, c1, p2, n2, c2, hv, hf.later hb⟩
/-- six cells that are a spot's -/
def SpCells (c : Nat → Option Value) (w : World) (p q : Rat) : Prop := ∃ b p1 n1 c1 p2 n2 c2 d p3 n3 c3 p4 n4 c4,
  (c 0 = some (.bool b) ∧ c 1 = some (.slice p1 n1 c1) ∧ c 2 = some (.slice p2 n2 c2) ∧ c 3 = some (.bool d) ∧ c 4 = some (.slice p3 n3 c3) ∧ c 5 = some (.slice p4 n4 c4)) ∧
  Frp w b (.slice p1 n1 c1) (.slice p2 n2 c2) p ∧ Frp w d (.slice p3 n3 c3) (.slice p4 n4 c4) q
/-- a value that is a spot -/
def Spv (w : World) (v : Value) (p q : Rat) : Prop := ∃ b p1 n1 c1 p2 n2 c2 d p3 n3 c3 p4 n4 c4,
  v = .agg #[.bool b, .slice p1 n1 c1, .slice p2 n2 c2, .bool d, .slice p3 n3 c3, .slice p4 n4 c4] ∧
  Frp w b (.slice p1 n1 c1) (.slice p2 n2 c2) p ∧ Frp w d (.slice p3 n3 c3) (.slice p4 n4 c4) q
theorem Spv.later {w w1 : World} {v : Value} {p q : Rat} (h : Spv w v p q) (hb : Below w.heap.size w w1) : Spv w1 v p q := by
  obtain ⟨b, p1, n1, c1, p2, n2, c2, d, p3, n3, c3, p4, n4, c4, hv, hf, hg⟩ := h
  exact ⟨b, p1, n1, c1, p2, n2, c2, d, p3, n3, c3, p4, n4, c4, hv, hf.later hb, hg.later hb⟩
def SpPost (p q : Rat) (w : World) (e : Ending) (w' : World) : Prop := (∃ v, e = .returned v ∧ Spv w' v p q) ∧ Below w.heap.size w w'
abbrev set6 (w : World) (g : Nat) (x y z x' y' z' : Value) : World := (((set3 w g x y z).setCell ⟨g, 3, none⟩ x').setCell ⟨g, 4, none⟩ y').setCell ⟨g, 5, none⟩ z'
abbrev z6 : List Value := [.bool false, .slice none 0 0, .slice none 0 0, .bool false, .slice none 0 0, .slice none 0 0]
theorem Frp.setCell {w : World} {b : Bool} {s d : Value} {q : Rat} {a : Addr} {u : Value} (x : Value) (h : Frp w b s d q) (hu : w.cell? a = some u) (hne : ∀ kk z, u ≠ .int kk z) : Frp (w.setCell a x) b s d q :=
  ⟨⟨h.1.1, h.1.2.setCell x hu hne⟩, h.2.setCell x hu hne⟩
theorem Frp.store6 {w : World} {b : Bool} {s d : Value} {q : Rat} {g : Nat} (x y z x' y' z' : Value) (h : Frp w b s d q) (X : BxAt w g z6) : Frp (set6 w g x y z x' y' z') b s d q := by
  have X1 := X.put 0 x (by simp)
  have X2 := X1.put 1 y (by simp)
  have X3 := X2.put 2 z (by simp)
  have X4 := X3.put 3 x' (by simp)
  have X5 := X4.put 4 y' (by simp)
  exact (((((h.setCell x (X.2.2 0 _ rfl) (by intro _ _ h; cases h)).setCell y (X1.2.2 1 _ rfl) (by intro _ _ h; cases h)).setCell z (X2.2.2 2 _ rfl) (by intro _ _ h; cases h)).setCell x' (X3.2.2 3 _ rfl) (by intro _ _ h; cases h)).setCell y' (X4.2.2 4 _ rfl) (by intro _ _ h; cases h)).setCell z' (X5.2.2 5 _ rfl) (by intro _ _ h; cases h)
theorem below_store6 {B : Nat} {w0 w : World} {g : Nat} (h : Below B w0 w) (hg : B ≤ g) (x y z x' y' z' : Value) : Below B w0 (set6 w g x y z x' y' z') :=
  (((below_store3 h hg x y z).setCell (p := ⟨g, 3, none⟩) hg _).setCell (p := ⟨g, 4, none⟩) hg _).setCell (p := ⟨g, 5, none⟩) hg _
/-- the boxes of a point, and of a spot that is to be -/
def PSt (W : World) (A : Nat) (x y : Int) : Prop := BxAt W A [.int .i64 x, .int .i64 y] ∧ BxAt W (A + 1) z6
theorem PSt.later {W W1 : World} {A : Nat} {x y : Int} (h : PSt W A x y) (hb : Below W.heap.size W W1) : PSt W1 A x y := ⟨h.1.later hb, h.2.later hb⟩
theorem PSt.cells {W : World} {A : Nat} {x y : Int} (h : PSt W A x y) : W.cell? ⟨A, 0, none⟩ = some (.int .i64 x) ∧ W.cell? ⟨A, 1, none⟩ = some (.int .i64 y) := ⟨h.1.2.2 0 _ rfl, h.1.2.2 1 _ rfl⟩
theorem PSt.drew {W : World} {A : Nat} {x y : Int} (h : PSt W A x y) : PSt W.drew A x y := h
theorem BxAt.far6 {w : World} {g g' : Nat} {cs : List Value} (h : BxAt w g cs) (x y z x' y' z' : Value) (hne : g' ≠ g) : BxAt (set6 w g' x y z x' y' z') g cs := (((h.far3 x y z hne).far1 x' hne).far1 y' hne).far1 z' hne
theorem PSt.far {W : World} {A : Nat} {x y : Int} (h : PSt W A x y) (u1 u2 u3 u4 u5 u6 : Value) : (set6 W (A + 1) u1 u2 u3 u4 u5 u6).cell? ⟨A, 0, none⟩ = some (.int .i64 x) ∧ (set6 W (A + 1) u1 u2 u3 u4 u5 u6).cell? ⟨A, 1, none⟩ = some (.int .i64 y) :=
  ⟨(h.1.far6 u1 u2 u3 u4 u5 u6 (by omega)).2.2 0 _ rfl, (h.1.far6 u1 u2 u3 u4 u5 u6 (by omega)).2.2 1 _ rfl⟩
theorem PSt.res {W : World} {A : Nat} {x y : Int} (h : PSt W A x y) : BxAt W (A + 1) z6 := h.2
theorem res6 {W : World} {g : Nat} (h : BxAt W g z6) : W.cell? ⟨g, 0, none⟩ = some (.bool false) ∧ W.cell? ⟨g, 1, none⟩ = some (.slice none 0 0) ∧ W.cell? ⟨g, 2, none⟩ = some (.slice none 0 0) ∧ W.cell? ⟨g, 3, none⟩ = some (.bool false) ∧ W.cell? ⟨g, 4, none⟩ = some (.slice none 0 0) ∧ W.cell? ⟨g, 5, none⟩ = some (.slice none 0 0) ∧ ∀ k, W.frozen? ⟨g, k, none⟩ = false :=
  ⟨h.2.2 0 _ rfl, h.2.2 1 _ rfl, h.2.2 2 _ rfl, h.2.2 3 _ rfl, h.2.2 4 _ rfl, h.2.2 5 _ rfl, h.2.1⟩
set_option maxRecDepth 100000 in
set_option maxHeartbeats 6400000 in
theorem At_any (x y : Int) (w : World) (hx : -8388607 ≤ x ∧ x ≤ 8388607) (hy : -8388607 ≤ y ∧ y ≤ 8388607) : Calls Try.prog 59 #[.agg #[.int .i64 x, .int .i64 y]] w (SpPost (x : Rat) (y : Rat) w) := by
  have I1 : Hid ((-I63 ≤ x ∧ x < I63) ∧ (-I63 ≤ y ∧ y < I63)) := Lib.hid (by unfold I63; omega)
  clear hx hy
  obtain ⟨w0, hw0⟩ : ∃ w0, (w.alloc (.cells #[.int .i64 x, .int .i64 y] 25)).alloc (.cells #[.bool false, .slice none 0 0, .slice none 0 0, .bool false, .slice none 0 0, .slice none 0 0] 108) = w0 := ⟨_, rfl⟩
  have F0 : Hid (PSt w0 w.heap.size x y) := Lib.hid (by rw [← hw0]; exact ⟨bx_a w _ _ _, bx_b w _ _ _⟩)
  have B0 : Hid (Below w.heap.size w w0) := Lib.hid (by rw [← hw0]; exact bel2 _ _ _)
  obtain ⟨i0, i1⟩ := F0.out.cells
  go_enter Try.func59, Try.ntmps59
  go_wp2_with fail
  clear hw0
  have K := F0.out
  have k : Below w0.heap.size w0 w0 := Below.refl _ _
  go_region_held3 (fun w' => w'.cell? ⟨w.heap.size, 0, none⟩ = some (.int .i64 x) ∧ w'.cell? ⟨w.heap.size, 1, none⟩ = some (.int .i64 y))
    (first | with_reducible exact K.cells | with_reducible exact K.drew.cells | with_reducible exact K.far _ _ _ _ _ _)
    (first
      | (go_at_call 61; (with_reducible refine (FInt_any x _ I1.out.1.1 I1.out.1.2).mono ?_); rintro e v1 ⟨⟨b1, s1, d1, rfl, P1⟩, hb⟩; obtain ⟨⟨p1, n1, c1, rfl⟩, p2, n2, c2, rfl⟩ := P1.forms; have k : Below w0.heap.size w0 v1 := bel_drew hb; have K := F0.out.later k)
      | (go_at_call 61; (with_reducible refine (FInt_any y _ I1.out.2.1 I1.out.2.2).mono ?_); rintro e v2 ⟨⟨b2, s2, d2, rfl, P2⟩, hb⟩; obtain ⟨⟨p3, n3, c3, rfl⟩, p4, n4, c4, rfl⟩ := P2.forms; have k := bthen k hb; have K := F0.out.later k; have P1 := P1.later hb; have R := K.res; obtain ⟨r0, r1, r2, r3, r4, r5, rf⟩ := res6 R))
  all_goals go_wp2_with fail
  refine bodyPost_ret (v := .agg #[.bool b1, .slice p1 n1 c1, .slice p2 n2 c2, .bool b2, .slice p3 n3 c3, .slice p4 n4 c4]) ?_ rfl ⟨⟨_, rfl, b1, p1, n1, c1, p2, n2, c2, b2, p3, n3, c3, p4, n4, c4, rfl, P1.store6 _ _ _ _ _ _ R, P2.store6 _ _ _ _ _ _ R⟩, below_store6 (bthen B0.out k) (by omega) _ _ _ _ _ _⟩
  clear K k R P1 P2
  simp [results, Try.results59, go_sem, r0, r1, r2, r3, r4, r5]
end Go.Proofs.Ytbmbibjidpgbnaa
namespace Go.Proofs.Ytbmbibjidpgbnaa
open Go.RowKit

/-- the boxes of two spots, a fraction, and a spot that is to be -/
def TSt (W : World) (A : Nat) (x0 x1 x2 x3 x4 x5 y0 y1 y2 y3 y4 y5 t0 t1 t2 : Value) : Prop :=
  BxAt W A [x0, x1, x2, x3, x4, x5] ∧ BxAt W (A + 1) [y0, y1, y2, y3, y4, y5] ∧ BxAt W (A + 1 + 1) [t0, t1, t2] ∧ BxAt W (A + 1 + 1 + 1) z6
section
variable {W W1 : World} {A : Nat} {x0 x1 x2 x3 x4 x5 y0 y1 y2 y3 y4 y5 t0 t1 t2 : Value}
theorem TSt.later (h : TSt W A x0 x1 x2 x3 x4 x5 y0 y1 y2 y3 y4 y5 t0 t1 t2) (hb : Below W.heap.size W W1) : TSt W1 A x0 x1 x2 x3 x4 x5 y0 y1 y2 y3 y4 y5 t0 t1 t2 :=
  ⟨h.1.later hb, h.2.1.later hb, h.2.2.1.later hb, h.2.2.2.later hb⟩
abbrev TCells (W : World) (A : Nat) (x0 x1 x2 x3 x4 x5 y0 y1 y2 y3 y4 y5 t0 t1 t2 : Value) : Prop :=
  W.cell? ⟨A, 0, none⟩ = some x0 ∧ W.cell? ⟨A, 1, none⟩ = some x1 ∧ W.cell? ⟨A, 2, none⟩ = some x2 ∧ W.cell? ⟨A, 3, none⟩ = some x3 ∧ W.cell? ⟨A, 4, none⟩ = some x4 ∧ W.cell? ⟨A, 5, none⟩ = some x5 ∧
  W.cell? ⟨A + 1, 0, none⟩ = some y0 ∧ W.cell? ⟨A + 1, 1, none⟩ = some y1 ∧ W.cell? ⟨A + 1, 2, none⟩ = some y2 ∧ W.cell? ⟨A + 1, 3, none⟩ = some y3 ∧ W.cell? ⟨A + 1, 4, none⟩ = some y4 ∧ W.cell? ⟨A + 1, 5, none⟩ = some y5 ∧
  W.cell? ⟨A + 1 + 1, 0, none⟩ = some t0 ∧ W.cell? ⟨A + 1 + 1, 1, none⟩ = some t1 ∧ W.cell? ⟨A + 1 + 1, 2, none⟩ = some t2
theorem TSt.cells (h : TSt W A x0 x1 x2 x3 x4 x5 y0 y1 y2 y3 y4 y5 t0 t1 t2) : TCells W A x0 x1 x2 x3 x4 x5 y0 y1 y2 y3 y4 y5 t0 t1 t2 :=
  ⟨h.1.2.2 0 _ rfl, h.1.2.2 1 _ rfl, h.1.2.2 2 _ rfl, h.1.2.2 3 _ rfl, h.1.2.2 4 _ rfl, h.1.2.2 5 _ rfl,
   h.2.1.2.2 0 _ rfl, h.2.1.2.2 1 _ rfl, h.2.1.2.2 2 _ rfl, h.2.1.2.2 3 _ rfl, h.2.1.2.2 4 _ rfl, h.2.1.2.2 5 _ rfl, h.2.2.1.2.2 0 _ rfl, h.2.2.1.2.2 1 _ rfl, h.2.2.1.2.2 2 _ rfl⟩
theorem TSt.drew (h : TSt W A x0 x1 x2 x3 x4 x5 y0 y1 y2 y3 y4 y5 t0 t1 t2) : TSt W.drew A x0 x1 x2 x3 x4 x5 y0 y1 y2 y3 y4 y5 t0 t1 t2 := h
theorem TSt.res (h : TSt W A x0 x1 x2 x3 x4 x5 y0 y1 y2 y3 y4 y5 t0 t1 t2) : BxAt W (A + 1 + 1 + 1) z6 := h.2.2.2
theorem TSt.far (h : TSt W A x0 x1 x2 x3 x4 x5 y0 y1 y2 y3 y4 y5 t0 t1 t2) (u1 u2 u3 u4 u5 u6 : Value) : TCells (set6 W (A + 1 + 1 + 1) u1 u2 u3 u4 u5 u6) A x0 x1 x2 x3 x4 x5 y0 y1 y2 y3 y4 y5 t0 t1 t2 := by
  have a := h.1.far6 (g' := A + 1 + 1 + 1) u1 u2 u3 u4 u5 u6 (by omega)
  have b := h.2.1.far6 (g' := A + 1 + 1 + 1) u1 u2 u3 u4 u5 u6 (by omega)
  have c := h.2.2.1.far6 (g' := A + 1 + 1 + 1) u1 u2 u3 u4 u5 u6 (by omega)
  exact ⟨a.2.2 0 _ rfl, a.2.2 1 _ rfl, a.2.2 2 _ rfl, a.2.2 3 _ rfl, a.2.2 4 _ rfl, a.2.2 5 _ rfl,
   b.2.2 0 _ rfl, b.2.2 1 _ rfl, b.2.2 2 _ rfl, b.2.2 3 _ rfl, b.2.2 4 _ rfl, b.2.2 5 _ rfl, c.2.2 0 _ rfl, c.2.2 1 _ rfl, c.2.2 2 _ rfl⟩
end
theorem bel4 (w : World) (o o2 o3 o4 : Obj) : Below w.heap.size w ((((w.alloc o).alloc o2).alloc o3).alloc o4) := bthen (bel3 w o o2 o3) (below_alloc _ o4)
theorem TSt.new (w : World) (x0 x1 x2 x3 x4 x5 y0 y1 y2 y3 y4 y5 t0 t1 t2 : Value) : TSt ((((w.alloc (.cells #[x0, x1, x2, x3, x4, x5] 108)).alloc (.cells #[y0, y1, y2, y3, y4, y5] 108)).alloc (.cells #[t0, t1, t2] 106)).alloc (.cells #[.bool false, .slice none 0 0, .slice none 0 0, .bool false, .slice none 0 0, .slice none 0 0] 108)) w.heap.size x0 x1 x2 x3 x4 x5 y0 y1 y2 y3 y4 y5 t0 t1 t2 :=
  ⟨(bx3_a w _ _ _ _).later (below_alloc _ _), (bx3_b w _ _ _ _).later (below_alloc _ _), (bx3_c w _ _ _ _).later (below_alloc _ _), by
    have := BxAt.new (((w.alloc (.cells #[x0, x1, x2, x3, x4, x5] 108)).alloc (.cells #[y0, y1, y2, y3, y4, y5] 108)).alloc (.cells #[t0, t1, t2] 106)) z6 108
    simpa using this⟩
set_option maxRecDepth 100000 in
set_option maxHeartbeats 6400000 in
theorem Toward_any (u v r : Value) (pX pY qX qY t : Rat) (w : World) (okX : TowOk t pX qX) (okY : TowOk t pY qY) (hu : Spv w u pX pY) (hv : Spv w v qX qY) (hr : Frv w r t) :
    Calls Try.prog 81 #[u, v, r] w (SpPost (pX + t * (qX - pX)) (pY + t * (qY - pY)) w) := by
  obtain ⟨b1, p1, n1, c1, p2, n2, c2, b2, p3, n3, c3, p4, n4, c4, rfl, f1, f2⟩ := hu
  obtain ⟨b3, p5, n5, c5, p6, n6, c6, b4, p7, n7, c7, p8, n8, c8, rfl, f3, f4⟩ := hv
  obtain ⟨b5, p9, n9, c9, p0, n0, c0, rfl, f5⟩ := hr
  have OX := Lib.hid okX
  have OY := Lib.hid okY
  have O1 : Hid (AddOk qX pX) := Lib.hid OX.out.1
  have O2 : Hid (MulOk t (qX - pX)) := Lib.hid OX.out.2.1
  have O3 : Hid (AddOk pX (t * (qX - pX))) := Lib.hid OX.out.2.2
  have O4 : Hid (AddOk qY pY) := Lib.hid OY.out.1
  have O5 : Hid (MulOk t (qY - pY)) := Lib.hid OY.out.2.1
  have O6 : Hid (AddOk pY (t * (qY - pY))) := Lib.hid OY.out.2.2
  clear OX OY okX okY
  obtain ⟨w0, hw0⟩ : ∃ w0, (((w.alloc (.cells #[.bool b1, .slice p1 n1 c1, .slice p2 n2 c2, .bool b2, .slice p3 n3 c3, .slice p4 n4 c4] 108)).alloc (.cells #[.bool b3, .slice p5 n5 c5, .slice p6 n6 c6, .bool b4, .slice p7 n7 c7, .slice p8 n8 c8] 108)).alloc (.cells #[.bool b5, .slice p9 n9 c9, .slice p0 n0 c0] 106)).alloc (.cells #[.bool false, .slice none 0 0, .slice none 0 0, .bool false, .slice none 0 0, .slice none 0 0] 108) = w0 := ⟨_, rfl⟩
  have F0 : Hid (TSt w0 w.heap.size (.bool b1) (.slice p1 n1 c1) (.slice p2 n2 c2) (.bool b2) (.slice p3 n3 c3) (.slice p4 n4 c4) (.bool b3) (.slice p5 n5 c5) (.slice p6 n6 c6) (.bool b4) (.slice p7 n7 c7) (.slice p8 n8 c8) (.bool b5) (.slice p9 n9 c9) (.slice p0 n0 c0)) := Lib.hid (by rw [← hw0]; exact TSt.new w _ _ _ _ _ _ _ _ _ _ _ _ _ _ _)
  have B0 : Hid (Below w.heap.size w w0) := Lib.hid (by rw [← hw0]; exact bel4 _ _ _ _ _)
  have Q1 : Hid (Frp w0 b1 (.slice p1 n1 c1) (.slice p2 n2 c2) pX) := Lib.hid (f1.later B0.out)
  have Q2 : Hid (Frp w0 b2 (.slice p3 n3 c3) (.slice p4 n4 c4) pY) := Lib.hid (f2.later B0.out)
  have Q3 : Hid (Frp w0 b3 (.slice p5 n5 c5) (.slice p6 n6 c6) qX) := Lib.hid (f3.later B0.out)
  have Q4 : Hid (Frp w0 b4 (.slice p7 n7 c7) (.slice p8 n8 c8) qY) := Lib.hid (f4.later B0.out)
  have Q5 : Hid (Frp w0 b5 (.slice p9 n9 c9) (.slice p0 n0 c0) t) := Lib.hid (f5.later B0.out)
  clear f1 f2 f3 f4 f5
  obtain ⟨i0, i1, i2, i3, i4, i5, i6, i7, i8, i9, j0, j1, j2, j3, j4⟩ := F0.out.cells
  go_enter Try.func81, Try.ntmps81
  go_wp2_with fail
  clear hw0
  have K := F0.out
  have k : Below w0.heap.size w0 w0 := Below.refl _ _
  go_region_held3 (fun w' => w'.cell? ⟨w.heap.size, 0, none⟩ = some (.bool b1) ∧ w'.cell? ⟨w.heap.size, 1, none⟩ = some (.slice p1 n1 c1) ∧ w'.cell? ⟨w.heap.size, 2, none⟩ = some (.slice p2 n2 c2) ∧ w'.cell? ⟨w.heap.size, 3, none⟩ = some (.bool b2) ∧ w'.cell? ⟨w.heap.size, 4, none⟩ = some (.slice p3 n3 c3) ∧ w'.cell? ⟨w.heap.size, 5, none⟩ = some (.slice p4 n4 c4) ∧ w'.cell? ⟨w.heap.size + 1, 0, none⟩ = some (.bool b3) ∧ w'.cell? ⟨w.heap.size + 1, 1, none⟩ = some (.slice p5 n5 c5) ∧ w'.cell? ⟨w.heap.size + 1, 2, none⟩ = some (.slice p6 n6 c6) ∧ w'.cell? ⟨w.heap.size + 1, 3, none⟩ = some (.bool b4) ∧ w'.cell? ⟨w.heap.size + 1, 4, none⟩ = some (.slice p7 n7 c7) ∧ w'.cell? ⟨w.heap.size + 1, 5, none⟩ = some (.slice p8 n8 c8) ∧ w'.cell? ⟨w.heap.size + 1 + 1, 0, none⟩ = some (.bool b5) ∧ w'.cell? ⟨w.heap.size + 1 + 1, 1, none⟩ = some (.slice p9 n9 c9) ∧ w'.cell? ⟨w.heap.size + 1 + 1, 2, none⟩ = some (.slice p0 n0 c0))
    (first | with_reducible exact K.cells | with_reducible exact K.drew.cells | with_reducible exact K.far _ _ _ _ _ _)
    (first
      | (go_at_call 94; (with_reducible refine (FSub_any b3 _ _ b1 _ _ qX pX _ O1.out Q3.out.drew Q1.out.drew).mono ?_); rintro e v1 ⟨⟨d1, s1, e1, rfl, P1⟩, hb⟩; have k : Below w0.heap.size w0 v1 := bel_drew hb; have K := F0.out.later k)
      | (go_at_call 68; (with_reducible refine (FMul_any b5 _ _ d1 s1 e1 t (qX - pX) _ O2.out (Q5.out.later k) P1).mono ?_); rintro e v2 ⟨⟨d2, s2, e2, rfl, P2⟩, hb⟩; have k := bthen k hb; have K := F0.out.later k)
      | (go_at_call 67; (with_reducible refine (FAdd_any b1 _ _ d2 s2 e2 pX (t * (qX - pX)) _ O3.out (Q1.out.later k) P2).mono ?_); rintro e v3 ⟨⟨d3, s3, e3, rfl, P3⟩, hb⟩; obtain ⟨⟨g1, l1, a1, rfl⟩, g2, l2, a2, rfl⟩ := P3.forms; have k := bthen k hb; have K := F0.out.later k)
      | (go_at_call 94; (with_reducible refine (FSub_any b4 _ _ b2 _ _ qY pY _ O4.out (Q4.out.later k) (Q2.out.later k)).mono ?_); rintro e v4 ⟨⟨d4, s4, e4, rfl, P4⟩, hb⟩; have P3 := P3.later hb; have k := bthen k hb; have K := F0.out.later k)
      | (go_at_call 68; (with_reducible refine (FMul_any b5 _ _ d4 s4 e4 t (qY - pY) _ O5.out (Q5.out.later k) P4).mono ?_); rintro e v5 ⟨⟨d5, s5, e5, rfl, P5⟩, hb⟩; have P3 := P3.later hb; have k := bthen k hb; have K := F0.out.later k)
      | (go_at_call 67; (with_reducible refine (FAdd_any b2 _ _ d5 s5 e5 pY (t * (qY - pY)) _ O6.out (Q2.out.later k) P5).mono ?_); rintro e v6 ⟨⟨d6, s6, e6, rfl, P6⟩, hb⟩; obtain ⟨⟨g3, l3, a3, rfl⟩, g4, l4, a4, rfl⟩ := P6.forms; have P3 := P3.later hb; have k := bthen k hb; have K := F0.out.later k; have R := K.res; obtain ⟨r0, r1, r2, r3, r4, r5, rf⟩ := res6 R))
  all_goals go_wp2_with fail
  refine bodyPost_ret (v := .agg #[.bool d3, .slice g1 l1 a1, .slice g2 l2 a2, .bool d6, .slice g3 l3 a3, .slice g4 l4 a4]) ?_ rfl ⟨⟨_, rfl, d3, g1, l1, a1, g2, l2, a2, d6, g3, l3, a3, g4, l4, a4, rfl, P3.store6 _ _ _ _ _ _ R, P6.store6 _ _ _ _ _ _ R⟩, below_store6 (bthen B0.out k) (by omega) _ _ _ _ _ _⟩
  clear K k R P3 P6
  simp [results, Try.results81, go_sem, r0, r1, r2, r3, r4, r5]
end Go.Proofs.Ytbmbibjidpgbnaa
namespace Go.Proofs.Ytbmbibjidpgbnaa
open Go.RowKit

theorem Try.info108 : (Try.prog.info? 108).map (fun i => (i.zero, i.size, i.bytes)) = some (some (.agg #[.bool false, .slice none 0 0, .slice none 0 0, .bool false, .slice none 0 0, .slice none 0 0]), 6, 112) := by kernel_rfl
theorem Try.underlying101 : Try.prog.underlying 101 = some (.slice 108) := by kernel_rfl
theorem SpCells.congr {c c' : Nat → Option Value} {w : World} {p q : Rat} (h : SpCells c w p q) (he : ∀ i, i < 6 → c' i = c i) : SpCells c' w p q := by
  obtain ⟨b, p1, n1, c1, p2, n2, c2, d, p3, n3, c3, p4, n4, c4, ⟨h0, h1, h2, h3, h4, h5⟩, f1, f2⟩ := h
  exact ⟨b, p1, n1, c1, p2, n2, c2, d, p3, n3, c3, p4, n4, c4, ⟨(he 0 (by omega)).trans h0, (he 1 (by omega)).trans h1, (he 2 (by omega)).trans h2, (he 3 (by omega)).trans h3, (he 4 (by omega)).trans h4, (he 5 (by omega)).trans h5⟩, f1, f2⟩
theorem SpCells.congr' {c c' : Nat → Option Value} {w : World} {p q : Rat} (h : SpCells c w p q) (he : ∀ i u, c i = some u → c' i = some u) : SpCells c' w p q := by
  obtain ⟨b, p1, n1, c1, p2, n2, c2, d, p3, n3, c3, p4, n4, c4, ⟨h0, h1, h2, h3, h4, h5⟩, f1, f2⟩ := h
  exact ⟨b, p1, n1, c1, p2, n2, c2, d, p3, n3, c3, p4, n4, c4, ⟨he _ _ h0, he _ _ h1, he _ _ h2, he _ _ h3, he _ _ h4, he _ _ h5⟩, f1, f2⟩
theorem Frp.grown {w w' : World} {b : Bool} {s d u : Value} {q : Rat} (h : Frp w b s d q) (hg : w.grownBy w' u.ownBlock) (hn : NoInt w u) : Frp w' b s d q :=
  ⟨⟨h.1.1, h.1.2.1.grown hg hn, h.1.2.2⟩, h.2.1.grown hg hn, h.2.2⟩
theorem SpCells.grown {c : Nat → Option Value} {w w' : World} {u : Value} {p q : Rat} (h : SpCells c w p q) (hg : w.grownBy w' u.ownBlock) (hn : NoInt w u) : SpCells c w' p q := by
  obtain ⟨b, p1, n1, c1, p2, n2, c2, d, p3, n3, c3, p4, n4, c4, hc, f1, f2⟩ := h
  exact ⟨b, p1, n1, c1, p2, n2, c2, d, p3, n3, c3, p4, n4, c4, hc, f1.grown hg hn, f2.grown hg hn⟩
theorem SpCells.later {c : Nat → Option Value} {w w' : World} {p q : Rat} (h : SpCells c w p q) (hb : Below w.heap.size w w') : SpCells c w' p q := by
  obtain ⟨b, p1, n1, c1, p2, n2, c2, d, p3, n3, c3, p4, n4, c4, hc, f1, f2⟩ := h
  exact ⟨b, p1, n1, c1, p2, n2, c2, d, p3, n3, c3, p4, n4, c4, hc, f1.later hb, f2.later hb⟩
/-- n spots in cells -/
def SpAt (w : World) (g off n : Nat) (X Y : Nat → Rat) : Prop := ∀ j, j < n → SpCells (fun i => w.cell? ⟨g, off + j * 6 + i, none⟩) w (X j) (Y j)
theorem SpAt.later {w w' : World} {g off n : Nat} {X Y : Nat → Rat} (h : SpAt w g off n X Y) (hb : Below w.heap.size w w') : SpAt w' g off n X Y := by
  intro j hj
  obtain ⟨b, p1, n1, c1, p2, n2, c2, d, p3, n3, c3, p4, n4, c4, ⟨h0, h1, h2, h3, h4, h5⟩, f1, f2⟩ := h j hj
  exact ⟨b, p1, n1, c1, p2, n2, c2, d, p3, n3, c3, p4, n4, c4, ⟨cell_later hb h0, cell_later hb h1, cell_later hb h2, cell_later hb h3, cell_later hb h4, cell_later hb h5⟩, f1.later hb, f2.later hb⟩
theorem SpAt.get {w : World} {g off n : Nat} {X Y : Nat → Rat} (h : SpAt w g off n X Y) (j : Nat) (hj : j < n) : ∃ b p1 n1 c1 p2 n2 c2 d p3 n3 c3 p4 n4 c4,
    (w.cell? ⟨g, off + j * 6, none⟩ = some (.bool b) ∧ w.cell? ⟨g, off + j * 6 + 1, none⟩ = some (.slice p1 n1 c1) ∧ w.cell? ⟨g, off + j * 6 + 2, none⟩ = some (.slice p2 n2 c2) ∧ w.cell? ⟨g, off + j * 6 + 3, none⟩ = some (.bool d) ∧ w.cell? ⟨g, off + j * 6 + 4, none⟩ = some (.slice p3 n3 c3) ∧ w.cell? ⟨g, off + j * 6 + 5, none⟩ = some (.slice p4 n4 c4)) ∧
    Spv w (.agg #[.bool b, .slice p1 n1 c1, .slice p2 n2 c2, .bool d, .slice p3 n3 c3, .slice p4 n4 c4]) (X j) (Y j) := by
  obtain ⟨b, p1, n1, c1, p2, n2, c2, d, p3, n3, c3, p4, n4, c4, hc, f1, f2⟩ := h j hj
  exact ⟨b, p1, n1, c1, p2, n2, c2, d, p3, n3, c3, p4, n4, c4, hc, b, p1, n1, c1, p2, n2, c2, d, p3, n3, c3, p4, n4, c4, rfl, f1, f2⟩
/-- a slice of n spots, at least one -/
def Sps (w : World) (v : Value) (n : Nat) (X Y : Nat → Rat) : Prop := ∃ g off cap, v = .slice (some ⟨g, off, none⟩) n cap ∧ SpAt w g off n X Y
theorem Sps.later {w w' : World} {v : Value} {n : Nat} {X Y : Nat → Rat} (h : Sps w v n X Y) (hb : Below w.heap.size w w') : Sps w' v n X Y := by
  obtain ⟨g, off, cap, hv, hp⟩ := h
  exact ⟨g, off, cap, hv, hp.later hb⟩
/-- a row of n spots of ours, in a block without numbers -/
def NRow (w : World) (B : Nat) (v : Value) (n : Nat) (X Y : Nat → Rat) : Prop := ∃ cs, w.ownsRow B 108 6 v n cs ∧ (∀ j, j < n → SpCells (fun i => cs[j * 6 + i]?) w (X j) (Y j)) ∧ NoInt w v
theorem NRow.nil (w : World) (B : Nat) (X Y : Nat → Rat) : NRow w B (.slice none 0 0) 0 X Y := ⟨[], World.ownsRow_nil _ _ _ _, fun j hj => by omega, NoInt.nil w⟩
theorem NRow.later {w w' : World} {B : Nat} {v : Value} {n : Nat} {X Y : Nat → Rat} (h : NRow w B v n X Y) (hb : Below w.heap.size w w') : NRow w' B v n X Y := by
  obtain ⟨cs, ho, hs, hn⟩ := h
  refine ⟨cs, own_later ho hb, fun j hj => (hs j hj).later hb, fun g hg j u hu => ?_⟩
  have hlt := (ho.lt g hg).2
  rw [hb.cell (p := ⟨g, j, none⟩) hlt] at hu
  exact hn g hg j u hu
theorem NRow.push {w w' : World} {B : Nat} {v v' : Value} {n : Nat} {X Y : Nat → Rat} {cs : List Value} {b d : Bool} {p1 p2 p3 p4 : Option Addr} {n1 n2 n3 n4 c1 c2 c3 c4 : Nat} (ho : w.ownsRow B 108 6 v n cs) (hs : ∀ j, j < n → SpCells (fun i => cs[j * 6 + i]?) w (X j) (Y j)) (hn : NoInt w v)
    (ho' : w'.ownsRow B 108 6 v' (n + 1) (cs ++ [.bool b, .slice p1 n1 c1, .slice p2 n2 c2, .bool d, .slice p3 n3 c3, .slice p4 n4 c4])) (hg : w.grownBy w' v.ownBlock) (hn' : NoInt w' v')
    (h1 : Frp w b (.slice p1 n1 c1) (.slice p2 n2 c2) (X n)) (h2 : Frp w d (.slice p3 n3 c3) (.slice p4 n4 c4) (Y n)) : NRow w' B v' (n + 1) X Y := by
  refine ⟨_, ho', fun j hj => ?_, hn'⟩
  have hl := ho.1
  by_cases e : j = n
  · subst e
    refine ⟨b, p1, n1, c1, p2, n2, c2, d, p3, n3, c3, p4, n4, c4, ⟨?_, ?_, ?_, ?_, ?_, ?_⟩, h1.grown hg hn, h2.grown hg hn⟩
    all_goals (show (_ ++ _)[_]? = _; rw [List.getElem?_append_right (by omega), hl]; simp)
  · refine ((hs j (by omega)).grown hg hn).congr fun i hi => ?_
    show (_ ++ _)[_]? = _
    rw [List.getElem?_append_left (by omega)]
theorem NRow.sps {w : World} {B : Nat} {v : Value} {n : Nat} {X Y : Nat → Rat} (h : NRow w B v n X Y) (h0 : 0 < n) : Sps w v n X Y := by
  obtain ⟨cs, ho, hs, hn⟩ := h
  rcases ho.2 with ⟨hv, h0⟩ | ⟨g, cap, cur, hv, hg, hh, _, _, _, htake⟩
  · omega
  · refine ⟨g, 0, cap, hv, fun j hj => (hs j hj).congr' ?_⟩
    intro i u hu
    have hc := ho.cells (g := g) (by rw [hv]; rfl) (j * 6 + i) u hu
    have hadd : ∀ i, (⟨g, 0, none⟩ : Addr).add i = ⟨g, 0 + i, none⟩ := by intro i; unfold Addr.add; split <;> simp_all
    rw [hadd] at hc
    rw [Nat.add_assoc]
    exact hc
def lenOf : Value → Nat | .slice _ n _ => n | _ => 0
end Go.Proofs.Ytbmbibjidpgbnaa
namespace Go.Proofs.Ytbmbibjidpgbnaa
open Go.RowKit

theorem ni6 {b d : Bool} {p1 p2 p3 p4 : Option Addr} {n1 n2 n3 n4 c1 c2 c3 c4 : Nat} : ∀ u ∈ [Value.bool b, .slice p1 n1 c1, .slice p2 n2 c2, .bool d, .slice p3 n3 c3, .slice p4 n4 c4], noI u := by
  intro u hu kk z
  simp only [List.mem_cons, List.not_mem_nil, or_false] at hu
  rcases hu with rfl | rfl | rfl | rfl | rfl | rfl <;> intro h <;> cases h
theorem Spv.drew {w : World} {v : Value} {p q : Rat} (h : Spv w v p q) : Spv w.drew v p q := h
theorem Frv.drew {w : World} {v : Value} {q : Rat} (h : Frv w v q) : Frv w.drew v q := h
/-- what a round of point reads: two spots and a fraction, all below B -/
def Cst (B : Nat) (W : World) (A g o1 o2 : Nat) (x0 x1 x2 x3 x4 x5 y0 y1 y2 y3 y4 y5 t0 t1 t2 : Value) : Prop := A < B ∧ g < B ∧ B ≤ W.heap.size ∧
  W.cell? ⟨g, o1, none⟩ = some x0 ∧ W.cell? ⟨g, o1 + 1, none⟩ = some x1 ∧ W.cell? ⟨g, o1 + 2, none⟩ = some x2 ∧ W.cell? ⟨g, o1 + 3, none⟩ = some x3 ∧ W.cell? ⟨g, o1 + 4, none⟩ = some x4 ∧ W.cell? ⟨g, o1 + 5, none⟩ = some x5 ∧
  W.cell? ⟨g, o2, none⟩ = some y0 ∧ W.cell? ⟨g, o2 + 1, none⟩ = some y1 ∧ W.cell? ⟨g, o2 + 2, none⟩ = some y2 ∧ W.cell? ⟨g, o2 + 3, none⟩ = some y3 ∧ W.cell? ⟨g, o2 + 4, none⟩ = some y4 ∧ W.cell? ⟨g, o2 + 5, none⟩ = some y5 ∧
  W.cell? ⟨A, 0, none⟩ = some t0 ∧ W.cell? ⟨A, 1, none⟩ = some t1 ∧ W.cell? ⟨A, 2, none⟩ = some t2
section
variable {B : Nat} {W W1 : World} {A g o1 o2 : Nat} {x0 x1 x2 x3 x4 x5 y0 y1 y2 y3 y4 y5 t0 t1 t2 : Value}
theorem Cst.cells (h : Cst B W A g o1 o2 x0 x1 x2 x3 x4 x5 y0 y1 y2 y3 y4 y5 t0 t1 t2) :
  W.cell? ⟨g, o1, none⟩ = some x0 ∧ W.cell? ⟨g, o1 + 1, none⟩ = some x1 ∧ W.cell? ⟨g, o1 + 2, none⟩ = some x2 ∧ W.cell? ⟨g, o1 + 3, none⟩ = some x3 ∧ W.cell? ⟨g, o1 + 4, none⟩ = some x4 ∧ W.cell? ⟨g, o1 + 5, none⟩ = some x5 ∧
  W.cell? ⟨g, o2, none⟩ = some y0 ∧ W.cell? ⟨g, o2 + 1, none⟩ = some y1 ∧ W.cell? ⟨g, o2 + 2, none⟩ = some y2 ∧ W.cell? ⟨g, o2 + 3, none⟩ = some y3 ∧ W.cell? ⟨g, o2 + 4, none⟩ = some y4 ∧ W.cell? ⟨g, o2 + 5, none⟩ = some y5 ∧
  W.cell? ⟨A, 0, none⟩ = some t0 ∧ W.cell? ⟨A, 1, none⟩ = some t1 ∧ W.cell? ⟨A, 2, none⟩ = some t2 := h.2.2.2
theorem Cst.drew (h : Cst B W A g o1 o2 x0 x1 x2 x3 x4 x5 y0 y1 y2 y3 y4 y5 t0 t1 t2) : Cst B W.drew A g o1 o2 x0 x1 x2 x3 x4 x5 y0 y1 y2 y3 y4 y5 t0 t1 t2 := h
theorem Cst.later (h : Cst B W A g o1 o2 x0 x1 x2 x3 x4 x5 y0 y1 y2 y3 y4 y5 t0 t1 t2) (hb : Below B W W1) : Cst B W1 A g o1 o2 x0 x1 x2 x3 x4 x5 y0 y1 y2 y3 y4 y5 t0 t1 t2 := by
  obtain ⟨hA, hg, hB, h0, h1, h2, h3, h4, h5, h6, h7, h8, h9, h10, h11, h12, h13, h14⟩ := h
  have e : ∀ a i u, a < B → W.cell? ⟨a, i, none⟩ = some u → W1.cell? ⟨a, i, none⟩ = some u := fun a i u ha hu => (hb.cell (p := ⟨a, i, none⟩) ha).trans hu
  exact ⟨hA, hg, Nat.le_trans hB hb.size, e _ _ _ hg h0, e _ _ _ hg h1, e _ _ _ hg h2, e _ _ _ hg h3, e _ _ _ hg h4, e _ _ _ hg h5, e _ _ _ hg h6, e _ _ _ hg h7, e _ _ _ hg h8, e _ _ _ hg h9, e _ _ _ hg h10, e _ _ _ hg h11, e _ _ _ hA h12, e _ _ _ hA h13, e _ _ _ hA h14⟩
theorem Cst.alloc (h : Cst B W A g o1 o2 x0 x1 x2 x3 x4 x5 y0 y1 y2 y3 y4 y5 t0 t1 t2) (o : Obj) : Cst B (W.alloc o) A g o1 o2 x0 x1 x2 x3 x4 x5 y0 y1 y2 y3 y4 y5 t0 t1 t2 := h.later ((Below.refl _ _).alloc h.2.2.1 o)
end
set_option maxRecDepth 100000 in
set_option maxHeartbeats 6400000 in
theorem point_gen (v rv : Value) (m : Nat) (t : Rat) (LX LY : Nat → Nat → Rat) (w : World) (hm0 : 1 ≤ m) (hm4 : m ≤ 4) (okX : ∀ r j, r + (j + 1) < m → TowOk t (LX r j) (LX r (j + 1))) (okY : ∀ r j, r + (j + 1) < m → TowOk t (LY r j) (LY r (j + 1)))
    (stX : ∀ r j, LX r j + t * (LX r (j + 1) - LX r j) = LX (r + 1) j) (stY : ∀ r j, LY r j + t * (LY r (j + 1) - LY r j) = LY (r + 1) j)
    (hs : Sps w v m (LX 0) (LY 0)) (hr : Frv w rv t) :
    Calls Try.prog 62 #[v, rv] w (SpPost (LX (m - 1) 0) (LY (m - 1) 0) w) := by
  obtain ⟨i0, hi, hz0, hz1, hz2⟩ := info_parts Try.info108
  obtain ⟨b5, p9, n9, c9, p0, n0, c0, rfl, f5⟩ := hr
  have OX := Lib.hid okX
  have OY := Lib.hid okY
  have SX := Lib.hid stX
  have SY := Lib.hid stY
  clear okX okY stX stY
  obtain ⟨w0, hw0⟩ : ∃ w0, (w.alloc (.cells #[.bool b5, .slice p9 n9 c9, .slice p0 n0 c0] 106)).alloc (.cells #[.bool false, .slice none 0 0, .slice none 0 0, .bool false, .slice none 0 0, .slice none 0 0] 108) = w0 := ⟨_, rfl⟩
  have T0 : Hid (BxAt w0 w.heap.size [.bool b5, .slice p9 n9 c9, .slice p0 n0 c0]) := Lib.hid (by rw [← hw0]; exact bx_a w _ _ _)
  have Z0 : Hid (BxAt w0 (w.heap.size + 1) z6) := Lib.hid (by rw [← hw0]; exact bx_b w _ _ _)
  have B0 : Hid (Below w.heap.size w w0) := Lib.hid (by rw [← hw0]; exact bel2 _ _ _)
  have Q5 : Hid (Frp w0 b5 (.slice p9 n9 c9) (.slice p0 n0 c0) t) := Lib.hid (f5.later B0.out)
  have S0 : Hid (Sps w0 v m (LX 0) (LY 0)) := Lib.hid (hs.later B0.out)
  clear hs f5
  go_enter Try.func62, Try.ntmps62
  go_wp2_with fail
  clear hw0
  go_loopw [0] (fun l wr => ∃ r : Nat, r + 1 ≤ m ∧ Sps wr l (m - r) (LX r) (LY r) ∧ Below w0.heap.size w0 wr) (fun l _ => lenOf l)
  case atStart => exact ⟨0, by omega, S0.out, Below.refl _ _⟩
  case round =>
    obtain ⟨r, hr, ⟨g, off, cap, rfl, hp⟩, hb⟩ := hrel
    obtain ⟨w1, rfl⟩ : ∃ w1, w1 = wr := ⟨_, rfl⟩
    obtain ⟨n, hn⟩ : ∃ n, n = m - r := ⟨_, rfl⟩
    rw [← hn] at hp ⊢
    have N := Lib.hid hn
    clear hn
    have hn1 : 1 ≤ n := by have := N.out; omega
    have hn4 : n ≤ 4 := by have := N.out; omega
    have hnm : r + n = m := by have := N.out; omega
    have P := Lib.hid hp
    have B1 := Lib.hid hb
    have M := Lib.hid hnm
    clear hp hb hnm
    by_cases h2 : 1 < n
    · go_wp2_with fail
      have hdt : decide ((1 : Int) < (n : Int)) = true := decide_eq_true (by omega)
      simp only [hdt]
      go_loopw [5, 6] (fun v i wz => ∃ j : Nat, j + 1 ≤ n ∧ i = .int .i64 j ∧ NRow wz w1.heap.size v j (LX (r + 1)) (LY (r + 1)) ∧ Below w1.heap.size w1 wz) (fun _ i _ => n - (intOf i).toNat)
      case atStart => exact ⟨0, by omega, rfl, NRow.nil _ _ _ _, Below.refl _ _⟩
      case round =>
        obtain ⟨j, hj, rfl, hrow, hbz⟩ := hrel
        by_cases hlt : j + 1 < n
        · obtain ⟨b1, p1, n1, c1, p2, n2, c2, b2, p3, n3, c3, p4, n4, c4, cx, sp1⟩ := (P.out.later hbz).get j (by omega)
          obtain ⟨b3, p5, n5, c5, p6, n6, c6, b4, p7, n7, c7, p8, n8, c8, cy, sp2⟩ := (P.out.later hbz).get (j + 1) hlt
          have BZ := Lib.hid hbz
          have tb := T0.out.later (bthen B1.out hbz)
          have Q6 : Hid (Frv wr (.agg #[.bool b5, .slice p9 n9 c9, .slice p0 n0 c0]) t) := Lib.hid ⟨_, _, _, _, _, _, _, rfl, Q5.out.later (bthen B1.out hbz)⟩
          have S1 := Lib.hid sp1
          have S2 := Lib.hid sp2
          have RW := Lib.hid hrow
          have zA : w.heap.size < w1.heap.size := Nat.lt_of_lt_of_le T0.out.1 B1.out.size
          have zg : g < w1.heap.size := by
            have := P.out 0 (by omega)
            obtain ⟨_, _, _, _, _, _, _, _, _, _, _, _, _, _, ⟨h0, _⟩, _⟩ := this
            exact World.block_lt_of_cell? w1 _ h0
          have C0 : Hid (Cst w1.heap.size wr w.heap.size g (off + j * 6) (off + (j + 1) * 6) (.bool b1) (.slice p1 n1 c1) (.slice p2 n2 c2) (.bool b2) (.slice p3 n3 c3) (.slice p4 n4 c4) (.bool b3) (.slice p5 n5 c5) (.slice p6 n6 c6) (.bool b4) (.slice p7 n7 c7) (.slice p8 n8 c8) (.bool b5) (.slice p9 n9 c9) (.slice p0 n0 c0)) :=
            Lib.hid ⟨zA, zg, BZ.out.size, cx.1, cx.2.1, cx.2.2.1, cx.2.2.2.1, cx.2.2.2.2.1, cx.2.2.2.2.2, cy.1, cy.2.1, cy.2.2.1, cy.2.2.2.1, cy.2.2.2.2.1, cy.2.2.2.2.2, tb.2.2 0 _ rfl, tb.2.2 1 _ rfl, tb.2.2 2 _ rfl⟩
          have OX1 : Hid (TowOk t (LX r j) (LX r (j + 1))) := Lib.hid (OX.out r j (by have := M.out; omega))
          have OY1 : Hid (TowOk t (LY r j) (LY r (j + 1))) := Lib.hid (OY.out r j (by have := M.out; omega))
          have hj0 : (0 : Int) ≤ (j : Int) := by omega
          have hj3 : (j : Int) < (n : Int) := by omega
          have hj4 : (j : Int) + 1 < (n : Int) := by omega
          have hj5 : (0 : Int) ≤ (j : Int) + 1 := by omega
          have hj6 : ((j : Int) + 1).toNat = j + 1 := by omega
          have hj7 : IntKind.i64.wrap ((j : Int) + 1) = (j : Int) + 1 := IntWalk.i64_in _ (by omega)
          clear hbz tb sp1 sp2 hrow cx cy
          have C := C0.out
          go_wp2_with fail
          go_region_held3 (fun w' => w'.cell? ⟨g, off + j * 6, none⟩ = some (.bool b1) ∧ w'.cell? ⟨g, off + j * 6 + 1, none⟩ = some (.slice p1 n1 c1) ∧ w'.cell? ⟨g, off + j * 6 + 2, none⟩ = some (.slice p2 n2 c2) ∧ w'.cell? ⟨g, off + j * 6 + 3, none⟩ = some (.bool b2) ∧ w'.cell? ⟨g, off + j * 6 + 4, none⟩ = some (.slice p3 n3 c3) ∧ w'.cell? ⟨g, off + j * 6 + 5, none⟩ = some (.slice p4 n4 c4) ∧ w'.cell? ⟨g, off + (j + 1) * 6, none⟩ = some (.bool b3) ∧ w'.cell? ⟨g, off + (j + 1) * 6 + 1, none⟩ = some (.slice p5 n5 c5) ∧ w'.cell? ⟨g, off + (j + 1) * 6 + 2, none⟩ = some (.slice p6 n6 c6) ∧ w'.cell? ⟨g, off + (j + 1) * 6 + 3, none⟩ = some (.bool b4) ∧ w'.cell? ⟨g, off + (j + 1) * 6 + 4, none⟩ = some (.slice p7 n7 c7) ∧ w'.cell? ⟨g, off + (j + 1) * 6 + 5, none⟩ = some (.slice p8 n8 c8) ∧ w'.cell? ⟨w.heap.size, 0, none⟩ = some (.bool b5) ∧ w'.cell? ⟨w.heap.size, 1, none⟩ = some (.slice p9 n9 c9) ∧ w'.cell? ⟨w.heap.size, 2, none⟩ = some (.slice p0 n0 c0))
            (first | with_reducible exact C.cells | with_reducible exact C.drew.cells | with_reducible exact (C.alloc _).cells)
            (first
              | (go_at_call 81; (with_reducible refine (Toward_any _ _ _ (LX r j) (LY r j) (LX r (j + 1)) (LY r (j + 1)) t wr.drew OX1.out OY1.out S1.out.drew S2.out.drew Q6.out.drew).mono ?_); rintro e v1 ⟨⟨u, rfl, d1, g1, l1, a1, g2, l2, a2, d2, g3, l3, a3, g4, l4, a4, rfl, f1, f2⟩, hb⟩; rw [SX.out] at f1; rw [SY.out] at f2; have k : Below wr.heap.size wr v1 := bel_drew hb; have R1 := RW.out.later k; have kB := k.mono BZ.out.size; have C := C0.out.later kB)
              | (obtain ⟨cs, ow, sp, ni⟩ := R1; refine step_ni (w0 := v1) rfl (.tmp 17) (.tmp 29) 101 rfl w1.heap.size 108 i0 (.agg #[.bool false, .slice none 0 0, .slice none 0 0, .bool false, .slice none 0 0, .slice none 0 0]) 6 112 [.bool d1, .slice g1 l1 a1, .slice g2 l2 a2, .bool d2, .slice g3 l3 a3, .slice g4 l4 a4] Try.underlying101 hi hz0 hz1 hz2 rfl rfl (by decide) _ _ _ rfl ow rfl (by simp [Value.oneCell']) (by unfold maxLen; omega) (by omega) (Nat.le_trans BZ.out.size k.size) ni ni6 ni6 ?_; intro g' cap' w5 ow5 hb5 gr5 ni5; have R5 := NRow.push ow sp ni ow5 gr5 ni5 f1 f2; have C := C.later hb5; have kB := kB.trans hb5))
          all_goals go_wp2_with fail
          go_roundw
          case rel => exact ⟨j + 1, by omega, by go_num, R5, BZ.out.trans kB⟩
          case measure => simp [intOf]; omega
        · have ej : j = n - 1 := by omega
          obtain ⟨ii, hii⟩ : ∃ ii : Int, ii = (j : Int) := ⟨_, rfl⟩
          rw [← hii]
          have hi1 : ¬ ii + 1 < (n : Int) := by omega
          have hi2 : 0 ≤ ii := by omega
          have hi3 : ii ≤ 100 := by omega
          rw [ej] at hrow
          have BZ := Lib.hid hbz
          obtain ⟨g', off', cap', rfl, hp'⟩ := hrow.sps (by omega)
          have E := Lib.hid (show Sps wr (.slice (some ⟨g', off', none⟩) (n - 1) cap') (m - (r + 1)) (LX (r + 1)) (LY (r + 1)) by
            have e : m - (r + 1) = n - 1 := by have := M.out; omega
            rw [e]
            exact ⟨g', off', cap', rfl, hp'⟩)
          have HR : Hid (r + 1 + 1 ≤ m) := Lib.hid (by have := M.out; omega)
          clear hii hbz hrow hp' ej hlt hj
          obtain ⟨n1, hn11⟩ : ∃ n1, n1 = n - 1 := ⟨_, rfl⟩
          rw [← hn11] at E ⊢
          have hn12 : n1 < n := by omega
          clear hn11
          go_wp2_with fail
          go_roundw
          case rel => exact ⟨r + 1, HR.out, E.out, bthen B1.out BZ.out⟩
          case measure => simp [lenOf]; omega
    · have en : n = 1 := by omega
      have hr1 : Hid (r = m - 1) := Lib.hid (by have := M.out; omega)
      subst en
      obtain ⟨b1, p1, n1, c1, p2, n2, c2, b2, p3, n3, c3, p4, n4, c4, ⟨x0, x1, x2, x3, x4, x5⟩, sp⟩ := P.out.get 0 (by omega)
      obtain ⟨_, _, _, _, _, _, _, _, _, _, _, _, _, _, hv, f1, f2⟩ := sp
      simp only [Value.agg.injEq, Array.mk.injEq, List.cons.injEq, Value.bool.injEq, Value.slice.injEq, and_true] at hv
      obtain ⟨rfl, ⟨rfl, rfl, rfl⟩, ⟨rfl, rfl, rfl⟩, rfl, ⟨rfl, rfl, rfl⟩, rfl, rfl, rfl⟩ := hv
      have Z1 := Z0.out.later B1.out
      obtain ⟨r0, r1, r2, r3, r4, r5, rf⟩ := res6 Z1
      simp only [Nat.zero_mul, Nat.add_zero] at x0 x1 x2 x3 x4 x5
      have R := Lib.hid Z1
      have F1 := Lib.hid f1
      have F2 := Lib.hid f2
      clear Z1 f1 f2
      go_wp2_with fail
      refine bodyPost_ret (v := .agg #[.bool b1, .slice p1 n1 c1, .slice p2 n2 c2, .bool b2, .slice p3 n3 c3, .slice p4 n4 c4]) ?_ rfl ⟨⟨_, rfl, b1, p1, n1, c1, p2, n2, c2, b2, p3, n3, c3, p4, n4, c4, rfl, ?_, ?_⟩, below_store6 (bthen B0.out B1.out) (by omega) _ _ _ _ _ _⟩
      · simp [results, Try.results62, go_sem, r0, r1, r2, r3, r4, r5]
      · rw [← hr1.out]; exact F1.out.store6 _ _ _ _ _ _ R.out
      · rw [← hr1.out]; exact F2.out.store6 _ _ _ _ _ _ R.out
end Go.Proofs.Ytbmbibjidpgbnaa
namespace Go.Proofs.Ytbmbibjidpgbnaa
open Go.RowKit

/-- a spot in a block -/
def C6 (W : World) (G : Nat) (x0 x1 x2 x3 x4 x5 : Value) : Prop := W.cell? ⟨G, 0, none⟩ = some x0 ∧ W.cell? ⟨G, 1, none⟩ = some x1 ∧ W.cell? ⟨G, 2, none⟩ = some x2 ∧ W.cell? ⟨G, 3, none⟩ = some x3 ∧ W.cell? ⟨G, 4, none⟩ = some x4 ∧ W.cell? ⟨G, 5, none⟩ = some x5
section
variable {W W1 : World} {G : Nat} {x0 x1 x2 x3 x4 x5 : Value}
theorem C6.cells (h : C6 W G x0 x1 x2 x3 x4 x5) : W.cell? ⟨G, 0, none⟩ = some x0 ∧ W.cell? ⟨G, 1, none⟩ = some x1 ∧ W.cell? ⟨G, 2, none⟩ = some x2 ∧ W.cell? ⟨G, 3, none⟩ = some x3 ∧ W.cell? ⟨G, 4, none⟩ = some x4 ∧ W.cell? ⟨G, 5, none⟩ = some x5 := h
theorem C6.drew (h : C6 W G x0 x1 x2 x3 x4 x5) : C6 W.drew G x0 x1 x2 x3 x4 x5 := h
theorem C6.later (h : C6 W G x0 x1 x2 x3 x4 x5) (hb : Below W.heap.size W W1) : C6 W1 G x0 x1 x2 x3 x4 x5 :=
  ⟨cell_later hb h.1, cell_later hb h.2.1, cell_later hb h.2.2.1, cell_later hb h.2.2.2.1, cell_later hb h.2.2.2.2.1, cell_later hb h.2.2.2.2.2⟩
theorem C6.alloc (h : C6 W G x0 x1 x2 x3 x4 x5) (o : Obj) : C6 (W.alloc o) G x0 x1 x2 x3 x4 x5 := h.later (below_alloc _ _)
theorem C6.grown (h : C6 W G x0 x1 x2 x3 x4 x5) {v : Value} (hg : W.grownBy W1 v.ownBlock) (hv : ∀ k, v.ownBlock = some k → k < G) : C6 W1 G x0 x1 x2 x3 x4 x5 := by
  have hne : some G ≠ v.ownBlock := fun e => by have := hv G e.symm; omega
  exact ⟨hg.cell h.1 hne, hg.cell h.2.1 hne, hg.cell h.2.2.1 hne, hg.cell h.2.2.2.1 hne, hg.cell h.2.2.2.2.1 hne, hg.cell h.2.2.2.2.2 hne⟩
end
set_option maxRecDepth 100000 in
set_option maxHeartbeats 6400000 in
theorem rcurve_any (g off m cap : Nat) (X Y : Nat → Int) (w : World) (hm : m = 3 ∨ m = 4) (h : PtAt w g off m X Y) :
    Calls Try.prog 42 #[.slice (some ⟨g, off, none⟩) m cap] w (CurvePost X Y m w) := by
  obtain ⟨i0, hi, hz0, hz1, hz2⟩ := info_parts Try.info108
  obtain ⟨i5, hi5, hy0, hy1, hy2⟩ := info_parts Try.info25
  have H := Lib.hid h
  clear h
  have hm0 : 3 ≤ m ∧ m ≤ 4 := by omega
  obtain ⟨hm1, hm2⟩ := hm0
  have HM := Lib.hid hm
  clear hm
  go_enter Try.func42, Try.ntmps42
  go_wp2_with fail
  refine (rpieces_any g off m cap X Y w (by omega) H.out).mono ?_
  rintro e w1 ⟨rfl, hb⟩
  cases hfit : fitsTo X Y m
  · have hz : piecesN X Y m = 0 := by unfold piecesN; rw [hfit]; rfl
    have HB := Lib.hid hb
    clear hb
    rw [hz]
    have HZ := Lib.hid hz
    clear hz
    go_wp2_with fail
    refine bodyPost_ret (v := .tuple #[.slice none 0 0, .int .i64 4]) ?_ rfl ⟨HB.out, Or.inl ⟨HZ.out, rfl⟩⟩
    simp [results, Try.results42, go_sem]
  · have hz : piecesN X Y m = pc (dTo X Y (m - 2)) := by unfold piecesN; rw [if_pos hfit]
    have hpl := pc_le (dTo X Y (m - 2))
    rw [← hz] at hpl
    obtain ⟨n, hn⟩ : ∃ n, n = piecesN X Y m := ⟨_, rfl⟩
    rw [← hn] at hpl ⊢
    obtain ⟨hn1, hn2⟩ := hpl
    have H1 := Lib.hid (H.out.later hb)
    have HB := Lib.hid hb
    clear hb H
    have HF := Lib.hid hfit
    clear hfit hz
    have HN := Lib.hid hn
    clear hn
    have hn3 : ¬ ((n : Int) = 0) := by omega
    go_wp2_with fail
    have hdb : ((n : Int) == 0) = false := by simp; omega
    simp only [hdb]
    clear hdb
    go_loopw [5, 6] (fun v i wr => ∃ j : Nat, j ≤ m ∧ i = .int .i64 j ∧ NRow wr w1.heap.size v j (fun j => (X j : Rat)) (fun j => (Y j : Rat)) ∧ Below w1.heap.size w1 wr) (fun _ i _ => m - (intOf i).toNat)
    case atStart => exact ⟨0, by omega, rfl, NRow.nil _ _ _ _, Below.refl _ _⟩
    case round =>
      obtain ⟨j, hj, rfl, hrow, hbz⟩ := hrel
      have BZ := Lib.hid hbz
      have RW := Lib.hid hrow
      clear hbz hrow
      by_cases hlt : j < m
      · obtain ⟨c0, c1⟩ := H1.out.later BZ.out j hlt
        obtain ⟨fx, fy⟩ := fits_iff (fitsTo_at (k := j) hlt HF.out)
        have AT := Lib.hid (At_any (X j) (Y j) wr fx fy)
        obtain ⟨x, hx⟩ : ∃ x, x = X j := ⟨_, rfl⟩
        obtain ⟨y, hy⟩ : ∃ y, y = Y j := ⟨_, rfl⟩
        obtain ⟨qx, hqx⟩ : ∃ q, q = (X j : Rat) := ⟨_, rfl⟩
        obtain ⟨qy, hqy⟩ : ∃ q, q = (Y j : Rat) := ⟨_, rfl⟩
        rw [← hqx, ← hqy, ← hx, ← hy] at AT
        rw [← hx] at c0
        rw [← hy] at c1
        have HX := Lib.hid (And.intro hqx hqy)
        have hj0 : (0 : Int) ≤ (j : Int) := by omega
        have hj3 : (j : Int) < (m : Int) := by omega
        clear hqx hqy hx hy fx fy
        go_wp2_with fail
        refine AT.out.mono ?_
        rintro e w2 ⟨⟨u, rfl, d1, g1, l1, a1, g2, l2, a2, d2, g3, l3, a3, g4, l4, a4, rfl, f1, f2⟩, hb⟩
        have R2 := RW.out.later hb
        obtain ⟨cs, ow, sp, ni⟩ := R2
        have B2 := Lib.hid (bthen BZ.out hb)
        have F1 := Lib.hid f1
        have F2 := Lib.hid f2
        have SP := Lib.hid sp
        have NI := Lib.hid ni
        clear hb f1 f2 sp ni c0 c1 AT
        go_wp2_with (at_builtin; go_loud (refine wpList_ni (w0 := w2) rfl (.tmp 22) (.tmp 28) 101 rfl w1.heap.size 108 i0 (.agg #[.bool false, .slice none 0 0, .slice none 0 0, .bool false, .slice none 0 0, .slice none 0 0]) 6 112 [.bool d1, .slice g1 l1 a1, .slice g2 l2 a2, .bool d2, .slice g3 l3 a3, .slice g4 l4 a4] Try.underlying101 hi hz0 hz1 hz2 rfl rfl (by decide) _ _ _ rfl ow rfl (by simp [Value.oneCell']) ?d1 ?d2 B2.out.size NI.out ni6 ni6 ?_))
        case d1 => unfold maxLen; omega
        case d2 => omega
        intro g' cap' w5 ow5 hb5 gr5 ni5
        have R5 := Lib.hid (NRow.push (X := fun j => (X j : Rat)) (Y := fun j => (Y j : Rat)) ow SP.out NI.out ow5 gr5 ni5 (by show Frp _ _ _ _ (X j : Rat); rw [← HX.out.1]; exact F1.out) (by show Frp _ _ _ _ (Y j : Rat); rw [← HX.out.2]; exact F2.out))
        have B5 := Lib.hid (B2.out.trans hb5)
        clear ow ow5 hb5 gr5 ni5
        go_wp2_with fail
        refine ⟨⟨j + 1, by omega, by go_num, R5.out, B5.out⟩, by (first | (simp [intOf]; done) | (simp [intOf]; omega) | (simp only [intOf]; omega))⟩
      · obtain rfl : j = m := by omega
        obtain ⟨sg, so, sc, rfl, hsp⟩ := RW.out.sps (by omega)
        have SS : Hid (Sps wr (.slice (some ⟨sg, so, none⟩) j sc) j (fun j => (X j : Rat)) (fun j => (Y j : Rat))) := Lib.hid ⟨sg, so, sc, rfl, hsp⟩
        obtain ⟨w2, rfl⟩ : ∃ w2, w2 = wr := ⟨_, rfl⟩
        have B2 := Lib.hid (bthen HB.out BZ.out)
        clear hsp RW BZ H1 HB hj hlt
        go_wp2_with fail
        go_loopw [7, 8] (fun v i wr => ∃ k q : Nat, q = k + 1 ∧ k ≤ n ∧ i = .int .i64 q ∧ CRel X Y j n w2 wr v k) (fun _ i _ => n + 1 - (intOf i).toNat)
        case atStart => exact ⟨0, 1, rfl, by omega, rfl, World.ownsRow_nil _ _ _ _, Below.refl _ _⟩
        case round =>
          obtain ⟨k, q, hq, hk, rfl, hrel⟩ := hrel
          have R := Lib.hid hrel
          have HK := Lib.hid (And.intro hq hk)
          have hq0 : 1 ≤ q := by omega
          clear hrel hq hk
          by_cases hlt : q ≤ n
          · have OD := Lib.hid (div_ok (k := q) (n := n) hlt ⟨by omega, hn2⟩)
            have DM := Lib.hid (div_mk q n)
            have XB : ∀ i, i < j → -8388607 ≤ X i ∧ X i ≤ 8388607 := fun i hi => (fits_iff (fitsTo_at (k := i) hi HF.out)).1
            have YB : ∀ i, i < j → -8388607 ≤ Y i ∧ Y i ≤ 8388607 := fun i hi => (fits_iff (fitsTo_at (k := i) hi HF.out)).2
            have PG : Hid (∀ (rv : Value) (W : World), Below w2.heap.size w2 W → Frv W rv (mkRat q n) → Calls Try.prog 62 #[.slice (some ⟨sg, so, none⟩) j sc, rv] W (SpPost (lev q n X (j - 1) 0) (lev q n Y (j - 1) 0) W)) := Lib.hid (fun rv W hW hr =>
              point_gen _ rv j (mkRat q n) (lev q n X) (lev q n Y) W (by omega) hm2 (fun r i h => lev_ok hlt ⟨by omega, hn2⟩ XB r i (by omega) h) (fun r i h => lev_ok hlt ⟨by omega, hn2⟩ YB r i (by omega) h) (fun r i => lev_succ q n X r i (by omega)) (fun r i => lev_succ q n Y r i (by omega))
                (by have e : lev q n X 0 = fun j => (X j : Rat) := funext (lev_zero q n X)
                    have e2 : lev q n Y 0 = fun j => (Y j : Rat) := funext (lev_zero q n Y)
                    rw [e, e2]
                    exact SS.out.later hW) hr)
            obtain ⟨nx1, nx2⟩ := lev_near (k := q) (n := n) HM.out hlt ⟨by omega, hn2⟩ XB
            obtain ⟨ny1, ny2⟩ := lev_near (k := q) (n := n) HM.out hlt ⟨by omega, hn2⟩ YB
            obtain ⟨qx, hqx⟩ : ∃ z, z = lev q n X (j - 1) 0 := ⟨_, rfl⟩
            obtain ⟨qy, hqy⟩ : ∃ z, z = lev q n Y (j - 1) 0 := ⟨_, rfl⟩
            rw [← hqx] at nx1 nx2
            rw [← hqy] at ny1 ny2
            rw [← hqx, ← hqy] at PG
            obtain ⟨zx, hzx⟩ : ∃ z, z = nearQ qx := ⟨_, rfl⟩
            obtain ⟨zy, hzy⟩ : ∃ z, z = nearQ qy := ⟨_, rfl⟩
            have NX : Hid (∀ b s d W, Frp W b s d qx → Calls Try.prog 63 #[.agg #[.bool b, s, d]] W (RetPost (.int .i64 zx) W)) := Lib.hid (fun b s d W h => by rw [hzx]; exact Near_any b s d qx W nx1 h)
            have NY : Hid (∀ b s d W, Frp W b s d qy → Calls Try.prog 63 #[.agg #[.bool b, s, d]] W (RetPost (.int .i64 zy) W)) := Lib.hid (fun b s d W h => by rw [hzy]; exact Near_any b s d qy W ny1 h)
            have HX : Hid (partN X j n q = zx) := Lib.hid (by rw [hzx, nx2])
            have HY : Hid (partN Y j n q = zy) := Lib.hid (by rw [hzy, ny2])
            have I1 : Hid ((-I63 ≤ (q : Int) ∧ (q : Int) < I63) ∧ (-I63 ≤ (n : Int) ∧ (n : Int) < I63)) := Lib.hid (by unfold I63; omega)
            clear XB YB hqx hqy nx1 nx2 ny1 ny2 hzx hzy
            go_wp2_with fail
            refine (FInt_any q wr I1.out.1.1 I1.out.1.2).mono ?_
            rintro e3 w3 ⟨⟨b3, s3, d3, rfl, h3⟩, hb3⟩
            have Q3 := Lib.hid h3
            have B3 := Lib.hid hb3
            clear h3 hb3
            go_wp2_with fail
            refine (FInt_any n w3 I1.out.2.1 I1.out.2.2).mono ?_
            rintro e4 w4 ⟨⟨b4, s4, d4, rfl, h4⟩, hb4⟩
            have Q4 := Lib.hid h4
            have Q3 := Lib.hid (Q3.out.later hb4)
            have B4 := Lib.hid (bthen B3.out hb4)
            clear h4 hb4 B3
            go_wp2_with fail
            refine (FDiv_any b3 s3 d3 b4 s4 d4 _ _ w4 OD.out Q3.out Q4.out).mono ?_
            rintro e5 w5 ⟨⟨b5, s5, d5, rfl, h5⟩, hb5⟩
            rw [DM.out] at h5
            obtain ⟨⟨p1, n1, c1, rfl⟩, p2, n2, c2, rfl⟩ := h5.forms
            have Q5 := Lib.hid h5
            have B5 := Lib.hid (bthen B4.out hb5)
            clear h5 hb5 B4 Q3 Q4
            go_wp2_with fail
            obtain ⟨w6, hw6⟩ : ∃ w6, w6 = w5.alloc (.cells #[.bool b5, .slice p1 n1 c1, .slice p2 n2 c2] 106) := ⟨_, rfl⟩
            rw [← hw6]
            have hb6 : Below w5.heap.size w5 w6 := by rw [hw6]; exact below_alloc _ _
            have B6 := Lib.hid (bthen B5.out hb6)
            have V6 : Hid (Frv w6 (.agg #[.bool b5, .slice p1 n1 c1, .slice p2 n2 c2]) (mkRat q n)) := Lib.hid ⟨_, _, _, _, _, _, _, rfl, Q5.out.later hb6⟩
            clear hw6 hb6 B5 Q5
            refine (PG.out _ w6 (bthen R.out.2 B6.out) V6.out).mono ?_
            rintro e6 w7 ⟨⟨u, rfl, d1, g1, l1, a1, g2, l2, a2, d2, g3, l3, a3, g4, l4, a4, rfl, f1, f2⟩, hb7⟩
            have B7 := Lib.hid (bthen B6.out hb7)
            have F1 := Lib.hid f1
            have F2 := Lib.hid f2
            clear f1 f2 hb7 B6 V6
            go_wp2_with fail
            obtain ⟨w8, hw8⟩ : ∃ w8, w8 = w7.alloc (.cells #[.bool d1, .slice g1 l1 a1, .slice g2 l2 a2, .bool d2, .slice g3 l3 a3, .slice g4 l4 a4] 108) := ⟨_, rfl⟩
            rw [← hw8]
            obtain ⟨G, hG⟩ : ∃ G, G = w7.heap.size := ⟨_, rfl⟩
            rw [← hG]
            have hb8 : Below w7.heap.size w7 w8 := by rw [hw8]; exact below_alloc _ _
            have B8 := Lib.hid (bthen B7.out hb8)
            have P1 := Lib.hid (F1.out.later hb8)
            have P2 := Lib.hid (F2.out.later hb8)
            have X8 : BxAt w8 G [.bool d1, .slice g1 l1 a1, .slice g2 l2 a2, .bool d2, .slice g3 l3 a3, .slice g4 l4 a4] := by rw [hw8, hG]; exact BxAt.new w7 _ _
            have C0 : Hid (C6 w8 G (.bool d1) (.slice g1 l1 a1) (.slice g2 l2 a2) (.bool d2) (.slice g3 l3 a3) (.slice g4 l4 a4)) := Lib.hid ⟨X8.2.2 0 _ rfl, X8.2.2 1 _ rfl, X8.2.2 2 _ rfl, X8.2.2 3 _ rfl, X8.2.2 4 _ rfl, X8.2.2 5 _ rfl⟩
            have RO := Lib.hid (own_later R.out.1 B8.out)
            have LT : Hid (∀ z, u7.ownBlock = some z → z < G) := Lib.hid (fun z hz => by have := (R.out.1.lt z hz).2; have := B7.out.size; omega)
            have BR := Lib.hid (R.out.2.trans (B8.out.mono R.out.2.size))
            have hk33 : k ≤ 33 := by have := HK.out; omega
            clear hw8 hG hb8 X8 F1 F2 B7
            have C := C0.out
            have k8 : Below w8.heap.size w8 w8 := Below.refl _ _
            go_region_held3 (fun w' => w'.cell? ⟨G, 0, none⟩ = some (.bool d1) ∧ w'.cell? ⟨G, 1, none⟩ = some (.slice g1 l1 a1) ∧ w'.cell? ⟨G, 2, none⟩ = some (.slice g2 l2 a2) ∧ w'.cell? ⟨G, 3, none⟩ = some (.bool d2) ∧ w'.cell? ⟨G, 4, none⟩ = some (.slice g3 l3 a3) ∧ w'.cell? ⟨G, 5, none⟩ = some (.slice g4 l4 a4))
              (first | with_reducible exact C.cells | with_reducible exact C.drew.cells | with_reducible exact (C.alloc _).cells)
              (first
                | (go_at_call 63; (with_reducible refine (NX.out d1 _ _ w8.drew P1.out.drew).mono ?_); rintro e v1 ⟨rfl, hb⟩; have k8 : Below w8.heap.size w8 v1 := bel_drew hb; have C := C0.out.later k8)
                | (go_at_call 63; (with_reducible refine (NY.out d2 _ _ _ (P2.out.later k8)).mono ?_); rintro e v2 ⟨rfl, hb⟩; have k8 := bthen k8 hb; have C := C0.out.later k8; have RO2 := own_later RO.out k8)
                | (refine step_app (w0 := v2) rfl (.tmp 46) (.tmp 54) 47 rfl w2.heap.size 25 i5 (.agg #[.int .i64 0, .int .i64 0]) 2 16 [.int .i64 zx, .int .i64 zy] Try.underlying47 hi5 hy0 hy1 hy2 rfl rfl (by decide) _ _ _ rfl RO2 rfl (by simp [Value.oneCell']) (by unfold maxLen; omega) (by omega) (Nat.le_trans BR.out.size k8.size) ?_; intro g' cap' w9 ow9 hb9 gr9; have C := C.grown gr9 LT.out))
            all_goals go_wp2_with fail
            have e1 : q = k + 1 := HK.out.1
            have S9 := Lib.hid (show CRel X Y j n w2 w9 (.slice (some ⟨g', 0, none⟩) (k + 1) cap') (k + 1) from ⟨by
              have h1 := HX.out
              have h2 := HY.out
              subst e1
              unfold ptsTo
              rw [h1, h2]
              exact ow9, (BR.out.trans (k8.mono BR.out.size)).trans hb9⟩)
            have E1 := Lib.hid e1
            clear e1
            go_roundw
            case rel => exact ⟨k + 1, q + 1, by have := E1.out; omega, by have := E1.out; omega, by go_num, S9.out⟩
            case measure => simp [intOf]; omega
          · have ek : k = n := by have := HK.out; omega
            subst ek
            go_wp2_with fail
            refine bodyPost_ret (v := .tuple #[u7, .int .i64 0]) ?_ rfl ?_
            · simp [results, Try.results42, go_sem]
            · refine ⟨B2.out.trans (R.out.2.mono B2.out.size), Or.inr ⟨HF.out, u7, rfl, ?_⟩⟩
              have e := HN.out
              rw [← e]
              exact RdP.of_owns (by omega) R.out.1
end Go.Proofs.Ytbmbibjidpgbnaa
namespace Go.Proofs.Ytbmbibjidpgbnaa
open Go.RowKit

theorem bel_drew' (w : World) : Below w.heap.size w w.drew := (Below.refl _ w).drew
theorem bx_drew {W : World} {A : Nat} {cs : List Value} (h : BxAt W A cs) : BxAt W.drew A cs := h
theorem pt2_of {W : World} {A : Nat} {X Y : Nat → Int} (h : PtAt W A 0 3 X Y) : PtAt W A 0 2 X Y := fun j hj => h j (by omega)
abbrev Bx4 (W : World) (A : Nat) (l : Nat → Int) : Prop := BxAt W A [.int .i64 (l 0), .int .i64 (l 1), .int .i64 (l 2), .int .i64 (l 3)]
theorem bx4_pts {W : World} {A : Nat} {l : Nat → Int} (h : Bx4 W A l) : PtAt W A 0 2 (quadX l) (quadY l) := by
  intro j hj
  have h4 : j = 0 ∨ j = 1 := by omega
  rcases h4 with rfl | rfl
  · exact ⟨h.2.2 0 _ rfl, h.2.2 1 _ rfl⟩
  · exact ⟨h.2.2 2 _ rfl, h.2.2 3 _ rfl⟩
abbrev Bx6 (W : World) (A : Nat) (l : Nat → Int) : Prop := BxAt W A [.int .i64 (l 0), .int .i64 (l 1), .int .i64 (l 2), .int .i64 (l 3), .int .i64 (l 4), .int .i64 (l 5)]
theorem bx6_cells {W : World} {A : Nat} {l : Nat → Int} (h : Bx6 W A l) : W.cell? ⟨A, 0, none⟩ = some (.int .i64 (l 0)) ∧ W.cell? ⟨A, 1, none⟩ = some (.int .i64 (l 1)) ∧ W.cell? ⟨A, 2, none⟩ = some (.int .i64 (l 2)) ∧ W.cell? ⟨A, 3, none⟩ = some (.int .i64 (l 3)) ∧ W.cell? ⟨A, 4, none⟩ = some (.int .i64 (l 4)) ∧ W.cell? ⟨A, 5, none⟩ = some (.int .i64 (l 5)) :=
  ⟨h.2.2 0 _ rfl, h.2.2 1 _ rfl, h.2.2 2 _ rfl, h.2.2 3 _ rfl, h.2.2 4 _ rfl, h.2.2 5 _ rfl⟩
theorem bx6_pts {W : World} {A : Nat} {l : Nat → Int} (h : Bx6 W A l) : PtAt W A 0 3 (quadX l) (quadY l) := by
  intro j hj
  have h4 : j = 0 ∨ j = 1 ∨ j = 2 := by omega
  rcases h4 with rfl | rfl | rfl
  · exact ⟨h.2.2 0 _ rfl, h.2.2 1 _ rfl⟩
  · exact ⟨h.2.2 2 _ rfl, h.2.2 3 _ rfl⟩
  · exact ⟨h.2.2 4 _ rfl, h.2.2 5 _ rfl⟩
set_option maxRecDepth 100000 in
set_option maxHeartbeats 6400000 in
theorem quads_any (l : Nat → Int) (w : World) : Calls Try.prog 9 #[.agg #[.int .i64 (l 0), .int .i64 (l 1), .int .i64 (l 2), .int .i64 (l 3), .int .i64 (l 4), .int .i64 (l 5)]] w (StaysPost w) := by
  obtain ⟨w0, hw0⟩ : ∃ w0, w.alloc (.cells #[.int .i64 (l 0), .int .i64 (l 1), .int .i64 (l 2), .int .i64 (l 3), .int .i64 (l 4), .int .i64 (l 5)] 67) = w0 := ⟨_, rfl⟩
  have F0 : Hid (Bx6 w0 w.heap.size l) := Lib.hid (by rw [← hw0]; exact BxAt.new w _ _)
  have B0 : Hid (Below w.heap.size w w0) := Lib.hid (by rw [← hw0]; exact below_alloc _ _)
  have QQ := Lib.hid (quad_any l)
  have LV := Lib.hid lives11
  obtain ⟨N, hN⟩ : ∃ N, N = piecesN (quadX l) (quadY l) 3 := ⟨_, rfl⟩
  have PA : Hid (∀ W A cap, PtAt W A 0 3 (quadX l) (quadY l) → Calls Try.prog 43 #[.slice (some ⟨A, 0, none⟩) 3 cap] W (RetPost (.int .i64 N) W)) := Lib.hid (fun W A cap h => by rw [hN]; exact pieces_any A 0 3 cap _ _ W (by omega) h)
  have PB : Hid (∀ W A cap, PtAt W A 0 3 (quadX l) (quadY l) → Calls Try.prog 44 #[.slice (some ⟨A, 0, none⟩) 3 cap] W (RetPost (.int .i64 N) W)) := Lib.hid (fun W A cap h => by rw [hN]; exact rpieces_any A 0 3 cap _ _ W (by omega) h)
  obtain ⟨N2, hN2⟩ : ∃ N, N = piecesN (quadX l) (quadY l) 2 := ⟨_, rfl⟩
  have PC : Hid (∀ W A cap, PtAt W A 0 2 (quadX l) (quadY l) → Calls Try.prog 43 #[.slice (some ⟨A, 0, none⟩) 2 cap] W (RetPost (.int .i64 N2) W)) := Lib.hid (fun W A cap h => by rw [hN2]; exact pieces_any A 0 2 cap _ _ W (by omega) h)
  have PD : Hid (∀ W A cap, PtAt W A 0 2 (quadX l) (quadY l) → Calls Try.prog 44 #[.slice (some ⟨A, 0, none⟩) 2 cap] W (RetPost (.int .i64 N2) W)) := Lib.hid (fun W A cap h => by rw [hN2]; exact rpieces_any A 0 2 cap _ _ W (by omega) h)
  clear hN2
  have PN : Hid (N = piecesN (quadX l) (quadY l) 3) := Lib.hid hN
  clear hN
  obtain ⟨i0, i1, i2, i3, i4, i5⟩ := bx6_cells F0.out
  go_enter Try.func9, Try.ntmps9
  go_wp2_with fail
  clear hw0
  refine (QQ.out w0).mono ?_
  rintro e1 w1 ⟨hb1, h1⟩
  obtain ⟨v1, z1, rfl, H1⟩ : ∃ v z, e1 = .returned (.tuple #[v, .int .i64 z]) ∧ ((z = 4 ∧ N = 0 ∧ v = .slice none 0 0) ∨ (z = 0 ∧ 0 < N ∧ ∃ X Y, (X = fun j => partN (quadX l) 3 N (j + 1)) ∧ (Y = fun j => partN (quadY l) 3 N (j + 1)) ∧ N ≤ 32 ∧ RdP w1 v N X Y)) := by
    rcases h1 with ⟨hz, rfl⟩ | ⟨hf, v, rfl, hr⟩
    · exact ⟨_, _, rfl, Or.inl ⟨rfl, PN.out.trans hz, rfl⟩⟩
    · have k := piecesN_of hf
      rw [← PN.out] at k hr
      exact ⟨_, _, rfl, Or.inr ⟨rfl, k.1, _, _, rfl, rfl, k.2, hr⟩⟩
  have J1 := Lib.hid H1
  have F1 := Lib.hid (F0.out.later hb1)
  have B1 := Lib.hid (bthen B0.out hb1)
  clear H1 hb1 h1 F0 B0 i0 i1 i2 i3 i4 i5
  go_wp2_with fail
  refine (rcurve_any w.heap.size 0 3 3 (quadX l) (quadY l) w1 (Or.inl rfl) (bx6_pts F1.out)).mono ?_
  rintro e2 w2 ⟨hb2, h2⟩
  obtain ⟨v2, rfl, H2⟩ : ∃ v2, e2 = .returned (.tuple #[v2, .int .i64 z1]) ∧ ∃ X Y, N ≤ 32 ∧ Pts w2 v1 N X Y ∧ Pts w2 v2 N X Y := by
    rcases h2 with ⟨hz, rfl⟩ | ⟨hf, v, rfl, hr⟩
    · rw [← PN.out] at hz
      rcases J1.out with ⟨rfl, _, rfl⟩ | ⟨_, h0, _⟩
      · exact ⟨_, rfl, fun _ => 0, fun _ => 0, by omega, ⟨none, 0, by rw [hz], by omega, fun h => by omega⟩, ⟨none, 0, by rw [hz], by omega, fun h => by omega⟩⟩
      · omega
    · have k := piecesN_of hf
      rw [← PN.out] at k hr
      rcases J1.out with ⟨_, h0, _⟩ | ⟨rfl, _, X, Y, hX, hY, h32, g1, o1, c1, rfl, _, p1⟩
      · omega
      · rw [← hX, ← hY] at hr
        obtain ⟨g2, o2, c2, rfl, _, p2⟩ := hr
        exact ⟨_, rfl, X, Y, h32, ⟨_, c1, rfl, by omega, fun _ => ⟨g1, o1, rfl, p1.later hb2⟩⟩, ⟨_, c2, rfl, by omega, fun _ => ⟨g2, o2, rfl, p2⟩⟩⟩
  obtain ⟨X, Y, h32, hp1, hp2⟩ := H2
  have SM : Hid (∀ W, Below w2.heap.size w2 W → Calls Try.prog 30 #[v1, v2] W (RetPost (.bool true) W)) := Lib.hid (fun W hW => same_any v1 v2 N X Y W (hp1.later hW) (hp2.later hW))
  have F2 := Lib.hid (F1.out.later hb2)
  have B2 := Lib.hid (bthen B1.out hb2)
  clear hp1 hp2 h32 hb2 h2 J1 F1 B1
  go_wp2_with fail
  have K := F2.out
  have k : Below w2.heap.size w2 w2 := Below.refl _ _
  go_region_held3 (fun w' => w'.cell? ⟨w.heap.size, 0, none⟩ = some (.int .i64 (l 0)) ∧ w'.cell? ⟨w.heap.size, 1, none⟩ = some (.int .i64 (l 1)) ∧ w'.cell? ⟨w.heap.size, 2, none⟩ = some (.int .i64 (l 2)) ∧ w'.cell? ⟨w.heap.size, 3, none⟩ = some (.int .i64 (l 3)) ∧ w'.cell? ⟨w.heap.size, 4, none⟩ = some (.int .i64 (l 4)) ∧ w'.cell? ⟨w.heap.size, 5, none⟩ = some (.int .i64 (l 5)))
    (first | with_reducible exact bx6_cells K | with_reducible exact bx6_cells (bx_drew K) | with_reducible exact bx6_cells (K.later (below_alloc _ _)))
    (first
      | (go_at_call 30; (with_reducible refine (SM.out w2.drew (bel_drew' w2)).mono ?_); rintro e3 x3 ⟨rfl, hb⟩; have k : Below w2.heap.size w2 x3 := bel_drew hb; have K := F2.out.later k)
      | (go_at_call 43; (with_reducible refine (PA.out _ _ _ (bx6_pts (BxAt.new x3 _ _))).mono ?_); rintro e4 x4 ⟨rfl, hb⟩; have k := bthen k (bthen (below_alloc _ _) hb); have K := F2.out.later k)
      | (go_at_call 44; (with_reducible refine (PB.out x4 _ _ (bx6_pts K)).mono ?_); rintro e5 x5 ⟨rfl, hb⟩; have k := bthen k hb; have K := F2.out.later k)
      | (go_at_call 43; (with_reducible refine (PC.out _ _ _ (bx4_pts (BxAt.new x5 _ _))).mono ?_); rintro e6 x6 ⟨rfl, hb⟩; have k := bthen k (bthen (below_alloc _ _) hb); have K := F2.out.later k)
      | (go_at_call 44; (with_reducible refine (PD.out x6 _ _ (pt2_of (bx6_pts K))).mono ?_); rintro e7 x7 ⟨rfl, hb⟩; have k := bthen k hb; have K := F2.out.later k)
      | (go_at_call 45; (with_reducible refine (LV.out x7).mono ?_); rintro e8 x8 ⟨rfl, hb⟩; have k := bthen k hb; have K := F2.out.later k))
  all_goals go_wp2_with fail
  go_ret
  exact ⟨rfl, bthen B2.out k⟩
abbrev Bx8 (W : World) (A : Nat) (l : Nat → Int) : Prop := BxAt W A [.int .i64 (l 0), .int .i64 (l 1), .int .i64 (l 2), .int .i64 (l 3), .int .i64 (l 4), .int .i64 (l 5), .int .i64 (l 6), .int .i64 (l 7)]
theorem bx8_cells {W : World} {A : Nat} {l : Nat → Int} (h : Bx8 W A l) : W.cell? ⟨A, 0, none⟩ = some (.int .i64 (l 0)) ∧ W.cell? ⟨A, 1, none⟩ = some (.int .i64 (l 1)) ∧ W.cell? ⟨A, 2, none⟩ = some (.int .i64 (l 2)) ∧ W.cell? ⟨A, 3, none⟩ = some (.int .i64 (l 3)) ∧ W.cell? ⟨A, 4, none⟩ = some (.int .i64 (l 4)) ∧ W.cell? ⟨A, 5, none⟩ = some (.int .i64 (l 5)) ∧ W.cell? ⟨A, 6, none⟩ = some (.int .i64 (l 6)) ∧ W.cell? ⟨A, 7, none⟩ = some (.int .i64 (l 7)) :=
  ⟨h.2.2 0 _ rfl, h.2.2 1 _ rfl, h.2.2 2 _ rfl, h.2.2 3 _ rfl, h.2.2 4 _ rfl, h.2.2 5 _ rfl, h.2.2 6 _ rfl, h.2.2 7 _ rfl⟩
theorem bx8_pts {W : World} {A : Nat} {l : Nat → Int} (h : Bx8 W A l) : PtAt W A 0 4 (quadX l) (quadY l) := by
  intro j hj
  have h4 : j = 0 ∨ j = 1 ∨ j = 2 ∨ j = 3 := by omega
  rcases h4 with rfl | rfl | rfl | rfl
  · exact ⟨h.2.2 0 _ rfl, h.2.2 1 _ rfl⟩
  · exact ⟨h.2.2 2 _ rfl, h.2.2 3 _ rfl⟩
  · exact ⟨h.2.2 4 _ rfl, h.2.2 5 _ rfl⟩
  · exact ⟨h.2.2 6 _ rfl, h.2.2 7 _ rfl⟩
set_option maxRecDepth 100000 in
set_option maxHeartbeats 6400000 in
theorem cubes_any (l : Nat → Int) (w : World) : Calls Try.prog 10 #[.agg #[.int .i64 (l 0), .int .i64 (l 1), .int .i64 (l 2), .int .i64 (l 3), .int .i64 (l 4), .int .i64 (l 5), .int .i64 (l 6), .int .i64 (l 7)]] w (StaysPost w) := by
  obtain ⟨w0, hw0⟩ : ∃ w0, w.alloc (.cells #[.int .i64 (l 0), .int .i64 (l 1), .int .i64 (l 2), .int .i64 (l 3), .int .i64 (l 4), .int .i64 (l 5), .int .i64 (l 6), .int .i64 (l 7)] 73) = w0 := ⟨_, rfl⟩
  have F0 : Hid (Bx8 w0 w.heap.size l) := Lib.hid (by rw [← hw0]; exact BxAt.new w _ _)
  have B0 : Hid (Below w.heap.size w w0) := Lib.hid (by rw [← hw0]; exact below_alloc _ _)
  have QQ := Lib.hid (cube_any l)
  have LV := Lib.hid lives11
  obtain ⟨N, hN⟩ : ∃ N, N = piecesN (quadX l) (quadY l) 4 := ⟨_, rfl⟩
  have PA : Hid (∀ W A cap, PtAt W A 0 4 (quadX l) (quadY l) → Calls Try.prog 43 #[.slice (some ⟨A, 0, none⟩) 4 cap] W (RetPost (.int .i64 N) W)) := Lib.hid (fun W A cap h => by rw [hN]; exact pieces_any A 0 4 cap _ _ W (by omega) h)
  have PB : Hid (∀ W A cap, PtAt W A 0 4 (quadX l) (quadY l) → Calls Try.prog 44 #[.slice (some ⟨A, 0, none⟩) 4 cap] W (RetPost (.int .i64 N) W)) := Lib.hid (fun W A cap h => by rw [hN]; exact rpieces_any A 0 4 cap _ _ W (by omega) h)
  have PN : Hid (N = piecesN (quadX l) (quadY l) 4) := Lib.hid hN
  clear hN
  obtain ⟨i0, i1, i2, i3, i4, i5, i6, i7⟩ := bx8_cells F0.out
  go_enter Try.func10, Try.ntmps10
  go_wp2_with fail
  clear hw0
  refine (QQ.out w0).mono ?_
  rintro e1 w1 ⟨hb1, h1⟩
  obtain ⟨v1, z1, rfl, H1⟩ : ∃ v z, e1 = .returned (.tuple #[v, .int .i64 z]) ∧ ((z = 4 ∧ N = 0 ∧ v = .slice none 0 0) ∨ (z = 0 ∧ 0 < N ∧ ∃ X Y, (X = fun j => partN (quadX l) 4 N (j + 1)) ∧ (Y = fun j => partN (quadY l) 4 N (j + 1)) ∧ N ≤ 32 ∧ RdP w1 v N X Y)) := by
    rcases h1 with ⟨hz, rfl⟩ | ⟨hf, v, rfl, hr⟩
    · exact ⟨_, _, rfl, Or.inl ⟨rfl, PN.out.trans hz, rfl⟩⟩
    · have k := piecesN_of hf
      rw [← PN.out] at k hr
      exact ⟨_, _, rfl, Or.inr ⟨rfl, k.1, _, _, rfl, rfl, k.2, hr⟩⟩
  have J1 := Lib.hid H1
  have F1 := Lib.hid (F0.out.later hb1)
  have B1 := Lib.hid (bthen B0.out hb1)
  clear H1 hb1 h1 F0 B0 i0 i1 i2 i3 i4 i5 i6 i7
  go_wp2_with fail
  refine (rcurve_any w.heap.size 0 4 4 (quadX l) (quadY l) w1 (Or.inr rfl) (bx8_pts F1.out)).mono ?_
  rintro e2 w2 ⟨hb2, h2⟩
  obtain ⟨v2, rfl, H2⟩ : ∃ v2, e2 = .returned (.tuple #[v2, .int .i64 z1]) ∧ ∃ X Y, N ≤ 32 ∧ Pts w2 v1 N X Y ∧ Pts w2 v2 N X Y := by
    rcases h2 with ⟨hz, rfl⟩ | ⟨hf, v, rfl, hr⟩
    · rw [← PN.out] at hz
      rcases J1.out with ⟨rfl, _, rfl⟩ | ⟨_, h0, _⟩
      · exact ⟨_, rfl, fun _ => 0, fun _ => 0, by omega, ⟨none, 0, by rw [hz], by omega, fun h => by omega⟩, ⟨none, 0, by rw [hz], by omega, fun h => by omega⟩⟩
      · omega
    · have k := piecesN_of hf
      rw [← PN.out] at k hr
      rcases J1.out with ⟨_, h0, _⟩ | ⟨rfl, _, X, Y, hX, hY, h32, g1, o1, c1, rfl, _, p1⟩
      · omega
      · rw [← hX, ← hY] at hr
        obtain ⟨g2, o2, c2, rfl, _, p2⟩ := hr
        exact ⟨_, rfl, X, Y, h32, ⟨_, c1, rfl, by omega, fun _ => ⟨g1, o1, rfl, p1.later hb2⟩⟩, ⟨_, c2, rfl, by omega, fun _ => ⟨g2, o2, rfl, p2⟩⟩⟩
  obtain ⟨X, Y, h32, hp1, hp2⟩ := H2
  have SM : Hid (∀ W, Below w2.heap.size w2 W → Calls Try.prog 30 #[v1, v2] W (RetPost (.bool true) W)) := Lib.hid (fun W hW => same_any v1 v2 N X Y W (hp1.later hW) (hp2.later hW))
  have F2 := Lib.hid (F1.out.later hb2)
  have B2 := Lib.hid (bthen B1.out hb2)
  clear hp1 hp2 h32 hb2 h2 J1 F1 B1
  go_wp2_with fail
  have K := F2.out
  have k : Below w2.heap.size w2 w2 := Below.refl _ _
  go_region_held3 (fun w' => w'.cell? ⟨w.heap.size, 0, none⟩ = some (.int .i64 (l 0)) ∧ w'.cell? ⟨w.heap.size, 1, none⟩ = some (.int .i64 (l 1)) ∧ w'.cell? ⟨w.heap.size, 2, none⟩ = some (.int .i64 (l 2)) ∧ w'.cell? ⟨w.heap.size, 3, none⟩ = some (.int .i64 (l 3)) ∧ w'.cell? ⟨w.heap.size, 4, none⟩ = some (.int .i64 (l 4)) ∧ w'.cell? ⟨w.heap.size, 5, none⟩ = some (.int .i64 (l 5)) ∧ w'.cell? ⟨w.heap.size, 6, none⟩ = some (.int .i64 (l 6)) ∧ w'.cell? ⟨w.heap.size, 7, none⟩ = some (.int .i64 (l 7)))
    (first | with_reducible exact bx8_cells K | with_reducible exact bx8_cells (bx_drew K) | with_reducible exact bx8_cells (K.later (below_alloc _ _)))
    (first
      | (go_at_call 30; (with_reducible refine (SM.out w2.drew (bel_drew' w2)).mono ?_); rintro e3 x3 ⟨rfl, hb⟩; have k : Below w2.heap.size w2 x3 := bel_drew hb; have K := F2.out.later k)
      | (go_at_call 43; (with_reducible refine (PA.out _ _ _ (bx8_pts (BxAt.new x3 _ _))).mono ?_); rintro e4 x4 ⟨rfl, hb⟩; have k := bthen k (bthen (below_alloc _ _) hb); have K := F2.out.later k)
      | (go_at_call 44; (with_reducible refine (PB.out x4 _ _ (bx8_pts K)).mono ?_); rintro e5 x5 ⟨rfl, hb⟩; have k := bthen k hb; have K := F2.out.later k)
      | (go_at_call 45; (with_reducible refine (LV.out x5).mono ?_); rintro e8 x8 ⟨rfl, hb⟩; have k := bthen k hb; have K := F2.out.later k))
  all_goals go_wp2_with fail
  go_ret
  exact ⟨rfl, bthen B2.out k⟩
end Go.Proofs.Ytbmbibjidpgbnaa
