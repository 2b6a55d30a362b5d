/- Appending to a row that holds no numbers changes no number. -/
import Derived.Test.YthglgempbdaikaaSl
namespace Go.Proofs.Ythglgempbdaikaa
open Go.RowKit

def noI (u : Value) : Prop := ∀ kk z, u ≠ .int kk z
def NoInt (w : World) (v : Value) : Prop := ∀ g, v.ownBlock = some g → ∀ j u, w.cell? ⟨g, j, none⟩ = some u → noI u
theorem NoInt.nil (w : World) : NoInt w (.slice none 0 0) := fun g h => by cases h
theorem zero_noI {z : Array Value} {n : Nat} (hz : ∀ u ∈ z.toList, noI u) (hs : 0 < z.size) : ∀ u ∈ (Builtin.zeroCells z n).toList, noI u := by
  intro u hu
  simp only [Builtin.zeroCells, Array.toList_map, List.mem_map] at hu
  obtain ⟨i, _, rfl⟩ := hu
  have hlt : i % z.size < z.size := Nat.mod_lt _ hs
  rw [getElem!_pos z _ hlt]
  exact hz _ (Array.getElem_mem_toList hlt)
theorem new_noI {w : World} {cs : Array Value} {e : TypeId} {n c : Nat} (h : ∀ u ∈ cs.toList, noI u) : NoInt (w.drew.alloc (.cells cs e)) (.slice (some ⟨w.heap.size, 0, none⟩) n c) := by
  intro g hg j u hu
  obtain rfl : w.heap.size = g := by simpa [Value.ownBlock] using hg
  have hc : (w.drew.alloc (.cells cs e)).cell? ⟨w.heap.size, j, none⟩ = cs[j]? := cell_of_row _ _ j cs e (0, 0) (heap_alloc_new w.drew _)
  rw [hc] at hu
  exact h u (Array.mem_toList_iff.2 (Array.mem_of_getElem? hu))
theorem app_ni {P : Program} (w : World) (base : Nat) (t ty e : TypeId) (i : TypeInfo) (z : Value) (size bytes : Nat) (ht : P.underlying t = some (.slice e)) (hi : P.info? e = some i) (hz : i.zero = some z)
    (hsize : i.size = size) (hby : i.bytes = bytes) (hzs : z.cells.size = size) (hsz : 0 < size)
    (v : Value) (n : Nat) (xs : List Value) (hown : w.ownsRow base e size v n xs)
    (a : Addr) (c : Nat) (news : List Value) (hl : news.length = 1 * size) (hnews : ∀ j u, news[j]? = some u → w.cell? (a.add j) = some u) (h1 : ∀ u ∈ news, u.oneCell' = true)
    (h63 : n + 1 ≤ maxLen) (hbytes : (n + 1) * bytes ≤ 140737488355328) (hbase : base ≤ w.heap.size) (hni : NoInt w v) (hzi : ∀ u ∈ z.cells.toList, noI u) (hnn : ∀ u ∈ news, noI u) :
    ∃ v' w', (Builtin.append_ #[t, t] ty #[v, .slice (some a) 1 c]).run P w = .ok v' w' ∧ w'.ownsRow base e size v' (n + 1) (xs ++ news) ∧ w.grownBy w' v.ownBlock ∧ NoInt w' v' := by
  obtain ⟨v', w', hr, h2, h3, _⟩ := run_append_own (P := P) w base t ty e i z size bytes ht hi hz hsize hby hzs hsz v n xs hown a 1 c news hl hnews h1 h63 hbytes hbase
  refine ⟨v', w', hr, h2, h3, ?_⟩
  have hsmall : n + 1 ≤ 9223372036854775807 := by simp only [maxLen] at h63; omega
  subst hsize
  subst hby
  have hzn : ∀ m, ∀ u ∈ (Builtin.zeroCells z.cells m).toList, noI u := fun m => zero_noI hzi (by omega)
  rcases hown.2 with ⟨rfl, rfl⟩ | ⟨g, cap, cur, rfl, hbg, hg, hnc, hcm, hcs, htake⟩
  · have hr' := run_append_nil (P := P) w t ty e i z ht hi hz a 1 c news hl hnews (by omega) (by omega) (by have hb := hbytes; simp only [Nat.zero_add] at hb; omega)
    rw [hr] at hr'
    injection hr' with e1 e2
    subst e1 e2
    refine new_noI fun u hu => ?_
    simp only [Array.toList_append, List.mem_append] at hu
    rcases hu with h | h
    · exact hnn u h
    · exact hzn _ u h
  · have hcur : ∀ u ∈ cur.toList, noI u := by
      intro u hu
      obtain ⟨j, hj, rfl⟩ := List.mem_iff_getElem.1 hu
      have hc := cell_of_row w g j cur e (0, 0) hg
      refine hni g rfl j _ (hc.trans ?_)
      simp at hj
      simp [hj]
    by_cases hroom : n + 1 ≤ cap
    · have hfit : n * i.size + news.length ≤ cur.size := by rw [hl, hcs, ← Nat.add_mul]; exact Nat.mul_le_mul_right _ hroom
      have hr' := run_append_room (P := P) w t ty e i ht hi g n cap cur hg a 1 c news hl hnews h1 hroom hfit
      rw [hr] at hr'
      injection hr' with e1 e2
      subst e1 e2
      intro g' hg' j u hu
      obtain rfl : g = g' := by simpa [Value.ownBlock] using hg'
      rw [cell_of_row _ _ j _ e (0, 0) (setRow_heap w g cur _ e _ hg)] at hu
      have hm := Array.mem_toList_iff.2 (Array.mem_of_getElem? hu)
      simp only [List.mem_append] at hm
      rcases hm with (h | h) | h
      · exact hcur u (List.mem_of_mem_take h)
      · exact hnn u h
      · exact hcur u (List.mem_of_mem_drop h)
    · have holds : ∀ j u, xs[j]? = some u → w.cell? ((⟨g, 0, none⟩ : Addr).add j) = some u := hown.cells (g := g) rfl
      have hr' := run_append_grow (P := P) w t ty e i z ht hi hz ⟨g, 0, none⟩ n cap xs hown.1 holds a 1 c news hl hnews (by omega) (by omega) (growslice_fits (by omega) hbytes)
      rw [hr] at hr'
      injection hr' with e1 e2
      subst e1 e2
      refine new_noI fun u hu => ?_
      simp only [Array.toList_append, List.mem_append] at hu
      rcases hu with (h | h) | h
      · exact hcur u (List.mem_of_mem_take (by rw [htake]; exact h))
      · exact hnn u h
      · exact hzn _ u h
theorem wpList_ni {P : Program} {ops : Array Oper} {rest : List Oper} {o : Oper} {a : Act} {Q : Exit → Act → World → Prop} {w0 : World} (hgd : o.guard = none) (s x : Operand) (t : TypeId)
    (ho : o.op = .call { callee := .builtin .append, args := #[s, x], argTypes := #[t, t] })
    (base : Nat) (e : TypeId) (i : TypeInfo) (z : Value) (size bytes : Nat) (cs : List Value) (ht : P.underlying t = some (.slice e)) (hi : P.info? e = some i) (hz : i.zero = some z)
    (hsize : i.size = size) (hby : i.bytes = bytes) (hcs : cs.length = size) (hzs : z.cells.size = size) (hsz : 0 < size)
    (v : Value) (n : Nat) (xs : List Value) (hs : a.eval s = v) (hown : w0.ownsRow base e size v n xs)
    (hx : a.eval x = .slice (some ⟨w0.heap.size, 0, none⟩) 1 1) (h1 : ∀ u ∈ cs, u.oneCell' = true)
    (h63 : n + 1 ≤ maxLen) (hbytes : (n + 1) * bytes ≤ 140737488355328) (hbase : base ≤ w0.heap.size) (hni : NoInt w0 v) (hzi : ∀ u ∈ z.cells.toList, noI u) (hnn : ∀ u ∈ cs, noI u)
    (h : ∀ g cap w', w'.ownsRow base e size (.slice (some ⟨g, 0, none⟩) (n + 1) cap) (n + 1) (xs ++ cs) → Below base w0 w' → w0.grownBy w' v.ownBlock → NoInt w' (.slice (some ⟨g, 0, none⟩) (n + 1) cap) → wpList P ops Q rest (a.put o.dst (.slice (some ⟨g, 0, none⟩) (n + 1) cap)) w') :
    wpList P ops Q (o :: rest) a (w0.alloc (.cells cs.toArray e)) := by
  have own1 := hown.alloc (.cells cs.toArray e)
  have ni1 : NoInt (w0.alloc (.cells cs.toArray e)) v := by
    intro g hg j u hu
    have hlt := (hown.lt g hg).2
    rw [((Below.refl _ w0).alloc (Nat.le_refl _) (.cells cs.toArray e)).cell (p := ⟨g, j, none⟩) hlt] at hu
    exact hni g hg j u hu
  obtain ⟨v', w', hr, h2, h3, h4⟩ := app_ni (P := P) (w0.alloc (.cells cs.toArray e)) base t o.type e i z size bytes ht hi hz hsize hby hzs hsz v n xs own1 ⟨w0.heap.size, 0, none⟩ 1 cs (by simp [hcs]) (news_at w0 cs e) h1 h63 hbytes (by simp; omega) ni1 hzi hnn
  refine wpList_plain hgd fun K hK => ?_
  unfold Oper.wp execOp
  simp only [ho, resolve, invoke, builtin, Sem.run_bind, Sem.run_pure, Result.andThen_ok, List.map_toArray, List.map_cons, List.map_nil, hs, hx, hr]
  have hb := ((Below.refl base w0).alloc hbase (.cells cs.toArray e)).grown h3 (by simp; omega) (fun k hk => (hown.lt k hk).1)
  have hg : w0.grownBy w' v.ownBlock := ⟨h3.os, h3.tape, h3.output, Nat.le_trans (by simp) h3.size, fun k hk hne => (h3.block k (by simp; omega) hne).trans (Below.heap_alloc w0 _ k hk)⟩
  rcases h2.2 with ⟨_, hn⟩ | ⟨g, cap, _, hv, _⟩
  · omega
  · subst hv
    exact hK _ _ (h g cap w' h2 hb hg h4)
theorem step_ni {P : Program} {ops : Array Oper} {o : Oper} {a : Act} {K : Act → World → Prop} {Q : Exit → Act → World → Prop} {E : Prop} {w0 : World} (hgd : o.guard = none) (s x : Operand) (t : TypeId)
    (ho : o.op = .call { callee := .builtin .append, args := #[s, x], argTypes := #[t, t] })
    (base : Nat) (e : TypeId) (i : TypeInfo) (z : Value) (size bytes : Nat) (cs : List Value) (ht : P.underlying t = some (.slice e)) (hi : P.info? e = some i) (hz : i.zero = some z)
    (hsize : i.size = size) (hby : i.bytes = bytes) (hcs : cs.length = size) (hzs : z.cells.size = size) (hsz : 0 < size)
    (v : Value) (n : Nat) (xs : List Value) (hs : a.eval s = v) (hown : w0.ownsRow base e size v n xs)
    (hx : a.eval x = .slice (some ⟨w0.heap.size, 0, none⟩) 1 1) (h1 : ∀ u ∈ cs, u.oneCell' = true)
    (h63 : n + 1 ≤ maxLen) (hbytes : (n + 1) * bytes ≤ 140737488355328) (hbase : base ≤ w0.heap.size) (hni : NoInt w0 v) (hzi : ∀ u ∈ z.cells.toList, noI u) (hnn : ∀ u ∈ cs, noI u)
    (h : ∀ g cap w', w'.ownsRow base e size (.slice (some ⟨g, 0, none⟩) (n + 1) cap) (n + 1) (xs ++ cs) → Below base w0 w' → w0.grownBy w' v.ownBlock → NoInt w' (.slice (some ⟨g, 0, none⟩) (n + 1) cap) → K (a.put o.dst (.slice (some ⟨g, 0, none⟩) (n + 1) cap)) w') :
    if Region.wanted o (yielded ops a.tmps) = true then Oper.wp P o a (w0.alloc (.cells cs.toArray e)) K Q else E := by
  have hw : Region.wanted o (yielded ops a.tmps) = true := by simp [Region.wanted, hgd]
  rw [if_pos hw]
  have own1 := hown.alloc (.cells cs.toArray e)
  have ni1 : NoInt (w0.alloc (.cells cs.toArray e)) v := by
    intro g hg j u hu
    have hlt := (hown.lt g hg).2
    rw [((Below.refl _ w0).alloc (Nat.le_refl _) (.cells cs.toArray e)).cell (p := ⟨g, j, none⟩) hlt] at hu
    exact hni g hg j u hu
  obtain ⟨v', w', hr, h2, h3, h4⟩ := app_ni (P := P) (w0.alloc (.cells cs.toArray e)) base t o.type e i z size bytes ht hi hz hsize hby hzs hsz v n xs own1 ⟨w0.heap.size, 0, none⟩ 1 cs (by simp [hcs]) (news_at w0 cs e) h1 h63 hbytes (by simp; omega) ni1 hzi hnn
  unfold Oper.wp execOp
  simp only [ho, resolve, invoke, builtin, Sem.run_bind, Sem.run_pure, Result.andThen_ok, List.map_toArray, List.map_cons, List.map_nil, hs, hx, hr]
  have hb := ((Below.refl base w0).alloc hbase (.cells cs.toArray e)).grown h3 (by simp; omega) (fun k hk => (hown.lt k hk).1)
  have hg : w0.grownBy w' v.ownBlock := ⟨h3.os, h3.tape, h3.output, Nat.le_trans (by simp) h3.size, fun k hk hne => (h3.block k (by simp; omega) hne).trans (Below.heap_alloc w0 _ k hk)⟩
  rcases h2.2 with ⟨_, hn⟩ | ⟨g, cap, _, hv, _⟩
  · omega
  · subst hv
    exact h g cap w' h2 hb hg h4
theorem step_app {P : Program} {ops : Array Oper} {o : Oper} {a : Act} {K : Act → World → Prop} {Q : Exit → Act → World → Prop} {E : Prop} {w0 : World} (hgd : o.guard = none) (s x : Operand) (t : TypeId)
    (ho : o.op = .call { callee := .builtin .append, args := #[s, x], argTypes := #[t, t] })
    (base : Nat) (e : TypeId) (i : TypeInfo) (z : Value) (size bytes : Nat) (cs : List Value) (ht : P.underlying t = some (.slice e)) (hi : P.info? e = some i) (hz : i.zero = some z)
    (hsize : i.size = size) (hby : i.bytes = bytes) (hcs : cs.length = size) (hzs : z.cells.size = size) (hsz : 0 < size)
    (v : Value) (n : Nat) (xs : List Value) (hs : a.eval s = v) (hown : w0.ownsRow base e size v n xs)
    (hx : a.eval x = .slice (some ⟨w0.heap.size, 0, none⟩) 1 1) (h1 : ∀ u ∈ cs, u.oneCell' = true)
    (h63 : n + 1 ≤ maxLen) (hbytes : (n + 1) * bytes ≤ 140737488355328) (hbase : base ≤ w0.heap.size)
    (h : ∀ g cap w', w'.ownsRow base e size (.slice (some ⟨g, 0, none⟩) (n + 1) cap) (n + 1) (xs ++ cs) → Below base w0 w' → w0.grownBy w' v.ownBlock → K (a.put o.dst (.slice (some ⟨g, 0, none⟩) (n + 1) cap)) w') :
    if Region.wanted o (yielded ops a.tmps) = true then Oper.wp P o a (w0.alloc (.cells cs.toArray e)) K Q else E := by
  have hw : Region.wanted o (yielded ops a.tmps) = true := by simp [Region.wanted, hgd]
  rw [if_pos hw]
  refine wp_append_own (w := w0.alloc (.cells cs.toArray e)) s x t ho base e i z size bytes ht hi hz hsize hby hzs hsz v n xs hs (hown.alloc _) ⟨w0.heap.size, 0, none⟩ 1 1 cs hx (by simp [hcs]) (news_at w0 cs e) h1 h63 hbytes (by simp; omega) fun v' w' h2 h3 _ => ?_
  have hb := ((Below.refl base w0).alloc hbase (.cells cs.toArray e)).grown h3 (by simp; omega) (fun k hk => (hown.lt k hk).1)
  have hg : w0.grownBy w' v.ownBlock := ⟨h3.os, h3.tape, h3.output, Nat.le_trans (by simp) h3.size, fun k hk hne => (h3.block k (by simp; omega) hne).trans (Below.heap_alloc w0 _ k hk)⟩
  have h2' := h2
  rcases h2.2 with ⟨_, hn⟩ | ⟨g, cap, _, hv, _⟩
  · omega
  · subst hv
    exact h g cap w' h2' hb hg
theorem Rd.grown {k : IntKind} {w w' : World} {v u : Value} {l : List Nat} (h : Rd k w v l) (hg : w.grownBy w' u.ownBlock) (hn : NoInt w u) : Rd k w' v l := by
  obtain ⟨a, cap, hv, hl, hc⟩ := h
  refine ⟨a, cap, hv, hl, fun h0 => ?_⟩
  obtain ⟨g, off, ha, hcc⟩ := hc h0
  refine ⟨g, off, ha, fun j hj => hg.cell (hcc j hj) fun e => ?_⟩
  exact hn g e.symm _ _ (hcc j hj) _ _ rfl
end Go.Proofs.Ythglgempbdaikaa
