/- Contracts of the path's and the glyph's checks; laws on rows and blocks (turned from another seat). -/
import Derived.Test.YtkhdielfnphheaaRows
import Derived.Test.YtkhdielfnphheaaChecked
import Derived.BigQuiet
import Derived.BigRegion
import Derived.Deep.DeepCutAuto
import Derived.Deep.QuietTactic
import Derived.Deep.RegionHeld3
import Derived.Lib.Hide
import Derived.Outline
import Derived.WalkKit
import Derived.WalkLawsBesides
import Derived.WalkSpells
namespace Go.Proofs.Ytkhdielfnphheaa
open Go.RowKit

def within (n m : Int) : Bool := decide (-m ≤ n ∧ n ≤ m)
theorem within_any (n m : Int) (w : World) (h0 : 0 ≤ m) (h1 : m ≤ 1000000000) :
    Calls Try.prog 86 #[.int .i64 n, .int .i64 m] w fun e w' => e = .returned (.bool (within n m)) ∧ w = w' := by
  by_cases h2 : -m ≤ n <;> by_cases h3 : n ≤ m
  all_goals
    go_enter Try.func86, Try.ntmps86
    go_wp2
    go_ret
    simp [within, h2, h3]
/-- a point fits -/
def fits (x y : Int) : Bool := within x 8388607 && within y 8388607
set_option maxHeartbeats 400000 in
theorem fits_any (x y : Int) (w : World) :
    Calls Try.prog 75 #[.agg #[.int .i64 x, .int .i64 y]] w fun e w' => e = .returned (.bool (fits x y)) ∧ w' = w.alloc (.cells #[.int .i64 x, .int .i64 y] 35) := by
  cases h1 : within x 8388607
  all_goals
    go_enter Try.func75, Try.ntmps75
    go_wp2_with (go_at_call 86; refine (within_any _ _ _ (by omega) (by omega)).mono ?_; rintro e w' ⟨rfl, rfl⟩)
    go_ret
    simp [fits, h1]
theorem mul_bd {a x A X : Int} (ha : -A ≤ a ∧ a ≤ A) (hx : -X ≤ x ∧ x ≤ X) : -(A * X) ≤ a * x ∧ a * x ≤ A * X := by
  have hA : 0 ≤ A := by omega
  have hX : 0 ≤ X := by omega
  have h1 : (A + a) * (X - x) ≥ 0 := Int.mul_nonneg (by omega) (by omega)
  have h2 : (A - a) * (X + x) ≥ 0 := Int.mul_nonneg (by omega) (by omega)
  have h3 : (A + a) * (X + x) ≥ 0 := Int.mul_nonneg (by omega) (by omega)
  have h4 : (A - a) * (X - x) ≥ 0 := Int.mul_nonneg (by omega) (by omega)
  simp only [Int.add_mul, Int.sub_mul, Int.mul_add, Int.mul_sub] at h1 h2 h3 h4
  omega
theorem bcell {W w1 : World} (hb : Below W.heap.size W w1) : (∀ b o, b < W.heap.size → w1.cell? ⟨b, o, none⟩ = W.cell? ⟨b, o, none⟩) ∧ (∀ b o, b < W.heap.size → w1.frozen? ⟨b, o, none⟩ = W.frozen? ⟨b, o, none⟩) :=
  ⟨fun b o h => hb.cell (p := ⟨b, o, none⟩) h, fun b o h => hb.frozen (p := ⟨b, o, none⟩) h⟩
theorem frozen_later {W W1 : World} {b k : Nat} (hB : Below W.heap.size W W1) (hb : b < W.heap.size) (h : W.frozen? ⟨b, k, none⟩ = false) : W1.frozen? ⟨b, k, none⟩ = false := by
  rw [hB.frozen (p := ⟨b, k, none⟩) hb]; exact h
set_option maxHeartbeats 1600000 in
theorem rfits_any (x y : Int) (w : World) :
    Calls Try.prog 38 #[.agg #[.int .i64 x, .int .i64 y]] w fun e w' => e = .returned (.bool (fits x y)) ∧ w' = w.alloc (.cells #[.int .i64 x, .int .i64 y] 35) := by
  by_cases h1 : -8388607 ≤ x <;> by_cases h2 : x ≤ 8388607 <;> by_cases h3 : -8388607 ≤ y <;> by_cases h4 : y ≤ 8388607
  all_goals first | (exfalso; omega) | skip
  all_goals
    have e : fits x y = (decide (-8388607 ≤ x) && decide (x ≤ 8388607) && (decide (-8388607 ≤ y) && decide (y ≤ 8388607))) := by simp [fits, within]
    have E := Lib.hid e
    clear e
    go_enter Try.func38, Try.ntmps38
    go_wp2
    go_ret
    rw [E.out]
    simp [h1, h2, h3, h4]
theorem news_at (w0 : World) (cs : List Value) (e : TypeId) : ∀ j u, cs[j]? = some u → (w0.alloc (.cells cs.toArray e)).cell? ((⟨w0.heap.size, 0, none⟩ : Addr).add j) = some u := by
  intro j u hu
  have hadd : (⟨w0.heap.size, 0, none⟩ : Addr).add j = ⟨w0.heap.size, j, none⟩ := by unfold Addr.add; split <;> simp_all
  rw [hadd, World.cell?_alloc_new]
  simpa using hu
/-- one element more, on a slice that the call owns -/
theorem wpList_app {P : Program} {ops : Array Oper} {rest : List Oper} {o : Oper} {a : Act} {Q : Exit → Act → World → Prop} {w0 : World} (hgd : o.guard = none) (s x : Operand) (t : TypeId)
    (ho : o.op = .call { callee := .builtin .append, args := #[s, x], argTypes := #[t, t] })
    (base : Nat) (e : TypeId) (i : TypeInfo) (z : Value) (size bytes : Nat) (cs : List Value) (ht : P.underlying t = some (.slice e)) (hi : P.info? e = some i) (hz : i.zero = some z)
    (hsize : i.size = size) (hby : i.bytes = bytes) (hcs : cs.length = size) (hzs : z.cells.size = size) (hsz : 0 < size)
    (v : Value) (n : Nat) (xs : List Value) (hs : a.eval s = v) (hown : w0.ownsRow base e size v n xs)
    (hx : a.eval x = .slice (some ⟨w0.heap.size, 0, none⟩) 1 1) (h1 : ∀ u ∈ cs, u.oneCell' = true)
    (h63 : n + 1 ≤ maxLen) (hbytes : (n + 1) * bytes ≤ 140737488355328) (hbase : base ≤ w0.heap.size)
    (h : ∀ g cap w', w'.ownsRow base e size (.slice (some ⟨g, 0, none⟩) (n + 1) cap) (n + 1) (xs ++ cs) → Below base w0 w' → wpList P ops Q rest (a.put o.dst (.slice (some ⟨g, 0, none⟩) (n + 1) cap)) w') :
    wpList P ops Q (o :: rest) a (w0.alloc (.cells cs.toArray e)) :=
  wpList_append_own (w := w0.alloc (.cells cs.toArray e)) hgd s x t ho base e i z size bytes ht hi hz hsize hby hzs hsz v n xs hs (hown.alloc _) ⟨w0.heap.size, 0, none⟩ 1 1 cs hx (by simp [hcs]) (news_at w0 cs e) h1 h63 hbytes (by simp; omega)
    fun v' w' h2 h3 _ => by
      have hb := ((Below.refl base w0).alloc hbase (.cells cs.toArray e)).grown h3 (by simp; omega) (fun k hk => (hown.lt k hk).1)
      have h2' := h2
      rcases h2.2 with ⟨_, hn⟩ | ⟨g, cap, _, hv, _⟩
      · omega
      · subst hv
        exact h g cap w' h2' hb
/-- a slice value of n elements of one cell each, which hold f 0, f 1, .. -/
def RdV (w : World) (v : Value) (n : Nat) (f : Nat → Value) : Prop :=
  ∃ (a : Option Addr) (cap : Nat), v = .slice a n cap ∧ n ≤ 281474976710656 ∧ (0 < n → ∃ g off, a = some ⟨g, off, none⟩ ∧ ∀ j, j < n → w.cell? ⟨g, off + j, none⟩ = some (f j))
theorem RdV.later {w w1 : World} {v : Value} {n : Nat} {f : Nat → Value} (h : RdV w v n f) (hb : Below w.heap.size w w1) : RdV w1 v n f := by
  obtain ⟨a, cap, hv, hl, hc⟩ := h
  refine ⟨a, cap, hv, hl, fun h0 => ?_⟩
  obtain ⟨g, off, ha, hcc⟩ := hc h0
  exact ⟨g, off, ha, fun j hj => cell_later hb (hcc j hj)⟩
theorem RdV.of_owns {w : World} {B : Nat} {e : TypeId} {v : Value} {n : Nat} {xs : List Value} {f : Nat → Value} (h : w.ownsRow B e 1 v n xs) (hl : n ≤ 281474976710656) (hf : ∀ j, j < n → xs[j]? = some (f j)) : RdV w v n f := by
  rcases h.2 with ⟨hv, h0⟩ | ⟨g, cap, cur, hv, hg, hh, _, _, _, htake⟩
  · subst h0
    exact ⟨none, 0, hv, by omega, fun h => by omega⟩
  · refine ⟨some ⟨g, 0, none⟩, cap, hv, hl, fun _ => ⟨g, 0, rfl, fun j hj => ?_⟩⟩
    have hc := h.cells (g := g) (by rw [hv]; rfl) j (f j) (hf j hj)
    have hadd : (⟨g, 0, none⟩ : Addr).add j = ⟨g, 0 + j, none⟩ := by unfold Addr.add; split <;> simp_all
    rwa [hadd] at hc
/-- a slice value that reads as the numbers l of kind k -/
def Rd (k : IntKind) (w : World) (v : Value) (l : List Nat) : Prop := RdV w v l.length (fun j => .int k ((l.getD j 0 : Nat) : Int))
theorem Rd.later {k : IntKind} {w w1 : World} {v : Value} {l : List Nat} (h : Rd k w v l) (hb : Below w.heap.size w w1) : Rd k w1 v l := RdV.later h hb
/-- the cells of a row of numbers -/
def ints (k : IntKind) (l : List Nat) : List Value := l.map fun x : Nat => Value.int k (x : Int)
theorem Rd.of_owns {k : IntKind} {w : World} {B : Nat} {e : TypeId} {v : Value} {n : Nat} {l : List Nat} (h : w.ownsRow B e 1 v n (ints k l)) (hl : l.length ≤ 281474976710656) : Rd k w v l := by
  have hn : l.length = n := by have := h.1; simpa [ints] using this
  subst hn
  exact RdV.of_owns h hl fun j hj => by simp [ints, hj]
def noI (u : Value) : Prop := ∀ kk z, u ≠ .int kk z
def NoInt (w : World) (v : Value) : Prop := ∀ g, v.ownBlock = some g → ∀ j u, w.cell? ⟨g, j, none⟩ = some u → noI u
theorem zero_noI {z : Array Value} {n : Nat} (hz : ∀ u ∈ z.toList, noI u) (hs : 0 < z.size) : ∀ u ∈ (Builtin.zeroCells z n).toList, noI u := by
  intro u hu
  simp only [Builtin.zeroCells, Array.toList_map, List.mem_map] at hu
  obtain ⟨i, _, rfl⟩ := hu
  have hlt : i % z.size < z.size := Nat.mod_lt _ hs
  rw [getElem!_pos z _ hlt]
  exact hz _ (Array.getElem_mem_toList hlt)
theorem new_noI {w : World} {cs : Array Value} {e : TypeId} {n c : Nat} (h : ∀ u ∈ cs.toList, noI u) : NoInt (w.drew.alloc (.cells cs e)) (.slice (some ⟨w.heap.size, 0, none⟩) n c) := by
  intro g hg j u hu
  obtain rfl : w.heap.size = g := by simpa [Value.ownBlock] using hg
  have hc : (w.drew.alloc (.cells cs e)).cell? ⟨w.heap.size, j, none⟩ = cs[j]? := cell_of_row _ _ j cs e (0, 0) (heap_alloc_new w.drew _)
  rw [hc] at hu
  exact h u (Array.mem_toList_iff.2 (Array.mem_of_getElem? hu))
theorem app_ni {P : Program} (w : World) (base : Nat) (t ty e : TypeId) (i : TypeInfo) (z : Value) (size bytes : Nat) (ht : P.underlying t = some (.slice e)) (hi : P.info? e = some i) (hz : i.zero = some z)
    (hsize : i.size = size) (hby : i.bytes = bytes) (hzs : z.cells.size = size) (hsz : 0 < size)
    (v : Value) (n : Nat) (xs : List Value) (hown : w.ownsRow base e size v n xs)
    (a : Addr) (c : Nat) (news : List Value) (hl : news.length = 1 * size) (hnews : ∀ j u, news[j]? = some u → w.cell? (a.add j) = some u) (h1 : ∀ u ∈ news, u.oneCell' = true)
    (h63 : n + 1 ≤ maxLen) (hbytes : (n + 1) * bytes ≤ 140737488355328) (hbase : base ≤ w.heap.size) (hni : NoInt w v) (hzi : ∀ u ∈ z.cells.toList, noI u) (hnn : ∀ u ∈ news, noI u) :
    ∃ v' w', (Builtin.append_ #[t, t] ty #[v, .slice (some a) 1 c]).run P w = .ok v' w' ∧ w'.ownsRow base e size v' (n + 1) (xs ++ news) ∧ w.grownBy w' v.ownBlock ∧ NoInt w' v' := by
  obtain ⟨v', w', hr, h2, h3, _⟩ := run_append_own (P := P) w base t ty e i z size bytes ht hi hz hsize hby hzs hsz v n xs hown a 1 c news hl hnews h1 h63 hbytes hbase
  refine ⟨v', w', hr, h2, h3, ?_⟩
  have hsmall : n + 1 ≤ 9223372036854775807 := by simp only [maxLen] at h63; omega
  subst hsize
  subst hby
  have hzn : ∀ m, ∀ u ∈ (Builtin.zeroCells z.cells m).toList, noI u := fun m => zero_noI hzi (by omega)
  rcases hown.2 with ⟨rfl, rfl⟩ | ⟨g, cap, cur, rfl, hbg, hg, hnc, hcm, hcs, htake⟩
  · have hr' := run_append_nil (P := P) w t ty e i z ht hi hz a 1 c news hl hnews (by omega) (by omega) (by have hb := hbytes; simp only [Nat.zero_add] at hb; omega)
    rw [hr] at hr'
    injection hr' with e1 e2
    subst e1 e2
    refine new_noI fun u hu => ?_
    simp only [Array.toList_append, List.mem_append] at hu
    rcases hu with h | h
    · exact hnn u h
    · exact hzn _ u h
  · have hcur : ∀ u ∈ cur.toList, noI u := by
      intro u hu
      obtain ⟨j, hj, rfl⟩ := List.mem_iff_getElem.1 hu
      have hc := cell_of_row w g j cur e (0, 0) hg
      refine hni g rfl j _ (hc.trans ?_)
      simp at hj
      simp [hj]
    by_cases hroom : n + 1 ≤ cap
    · have hfit : n * i.size + news.length ≤ cur.size := by rw [hl, hcs, ← Nat.add_mul]; exact Nat.mul_le_mul_right _ hroom
      have hr' := run_append_room (P := P) w t ty e i ht hi g n cap cur hg a 1 c news hl hnews h1 hroom hfit
      rw [hr] at hr'
      injection hr' with e1 e2
      subst e1 e2
      intro g' hg' j u hu
      obtain rfl : g = g' := by simpa [Value.ownBlock] using hg'
      rw [cell_of_row _ _ j _ e (0, 0) (setRow_heap w g cur _ e _ hg)] at hu
      have hm := Array.mem_toList_iff.2 (Array.mem_of_getElem? hu)
      simp only [List.mem_append] at hm
      rcases hm with (h | h) | h
      · exact hcur u (List.mem_of_mem_take h)
      · exact hnn u h
      · exact hcur u (List.mem_of_mem_drop h)
    · have holds : ∀ j u, xs[j]? = some u → w.cell? ((⟨g, 0, none⟩ : Addr).add j) = some u := hown.cells (g := g) rfl
      have hr' := run_append_grow (P := P) w t ty e i z ht hi hz ⟨g, 0, none⟩ n cap xs hown.1 holds a 1 c news hl hnews (by omega) (by omega) (growslice_fits (by omega) hbytes)
      rw [hr] at hr'
      injection hr' with e1 e2
      subst e1 e2
      refine new_noI fun u hu => ?_
      simp only [Array.toList_append, List.mem_append] at hu
      rcases hu with (h | h) | h
      · exact hcur u (List.mem_of_mem_take (by rw [htake]; exact h))
      · exact hnn u h
      · exact hzn _ u h
theorem wpList_ni {P : Program} {ops : Array Oper} {rest : List Oper} {o : Oper} {a : Act} {Q : Exit → Act → World → Prop} {w0 : World} (hgd : o.guard = none) (s x : Operand) (t : TypeId)
    (ho : o.op = .call { callee := .builtin .append, args := #[s, x], argTypes := #[t, t] })
    (base : Nat) (e : TypeId) (i : TypeInfo) (z : Value) (size bytes : Nat) (cs : List Value) (ht : P.underlying t = some (.slice e)) (hi : P.info? e = some i) (hz : i.zero = some z)
    (hsize : i.size = size) (hby : i.bytes = bytes) (hcs : cs.length = size) (hzs : z.cells.size = size) (hsz : 0 < size)
    (v : Value) (n : Nat) (xs : List Value) (hs : a.eval s = v) (hown : w0.ownsRow base e size v n xs)
    (hx : a.eval x = .slice (some ⟨w0.heap.size, 0, none⟩) 1 1) (h1 : ∀ u ∈ cs, u.oneCell' = true)
    (h63 : n + 1 ≤ maxLen) (hbytes : (n + 1) * bytes ≤ 140737488355328) (hbase : base ≤ w0.heap.size) (hni : NoInt w0 v) (hzi : ∀ u ∈ z.cells.toList, noI u) (hnn : ∀ u ∈ cs, noI u)
    (h : ∀ g cap w', w'.ownsRow base e size (.slice (some ⟨g, 0, none⟩) (n + 1) cap) (n + 1) (xs ++ cs) → Below base w0 w' → w0.grownBy w' v.ownBlock → NoInt w' (.slice (some ⟨g, 0, none⟩) (n + 1) cap) → wpList P ops Q rest (a.put o.dst (.slice (some ⟨g, 0, none⟩) (n + 1) cap)) w') :
    wpList P ops Q (o :: rest) a (w0.alloc (.cells cs.toArray e)) := by
  have own1 := hown.alloc (.cells cs.toArray e)
  have ni1 : NoInt (w0.alloc (.cells cs.toArray e)) v := by
    intro g hg j u hu
    have hlt := (hown.lt g hg).2
    rw [((Below.refl _ w0).alloc (Nat.le_refl _) (.cells cs.toArray e)).cell (p := ⟨g, j, none⟩) hlt] at hu
    exact hni g hg j u hu
  obtain ⟨v', w', hr, h2, h3, h4⟩ := app_ni (P := P) (w0.alloc (.cells cs.toArray e)) base t o.type e i z size bytes ht hi hz hsize hby hzs hsz v n xs own1 ⟨w0.heap.size, 0, none⟩ 1 cs (by simp [hcs]) (news_at w0 cs e) h1 h63 hbytes (by simp; omega) ni1 hzi hnn
  refine wpList_plain hgd fun K hK => ?_
  unfold Oper.wp execOp
  simp only [ho, resolve, invoke, builtin, Sem.run_bind, Sem.run_pure, Result.andThen_ok, List.map_toArray, List.map_cons, List.map_nil, hs, hx, hr]
  have hb := ((Below.refl base w0).alloc hbase (.cells cs.toArray e)).grown h3 (by simp; omega) (fun k hk => (hown.lt k hk).1)
  have hg : w0.grownBy w' v.ownBlock := ⟨h3.os, h3.tape, h3.output, Nat.le_trans (by simp) h3.size, fun k hk hne => (h3.block k (by simp; omega) hne).trans (Below.heap_alloc w0 _ k hk)⟩
  rcases h2.2 with ⟨_, hn⟩ | ⟨g, cap, _, hv, _⟩
  · omega
  · subst hv
    exact hK _ _ (h g cap w' h2 hb hg h4)
theorem step_ni {P : Program} {ops : Array Oper} {o : Oper} {a : Act} {K : Act → World → Prop} {Q : Exit → Act → World → Prop} {E : Prop} {w0 : World} (hgd : o.guard = none) (s x : Operand) (t : TypeId)
    (ho : o.op = .call { callee := .builtin .append, args := #[s, x], argTypes := #[t, t] })
    (base : Nat) (e : TypeId) (i : TypeInfo) (z : Value) (size bytes : Nat) (cs : List Value) (ht : P.underlying t = some (.slice e)) (hi : P.info? e = some i) (hz : i.zero = some z)
    (hsize : i.size = size) (hby : i.bytes = bytes) (hcs : cs.length = size) (hzs : z.cells.size = size) (hsz : 0 < size)
    (v : Value) (n : Nat) (xs : List Value) (hs : a.eval s = v) (hown : w0.ownsRow base e size v n xs)
    (hx : a.eval x = .slice (some ⟨w0.heap.size, 0, none⟩) 1 1) (h1 : ∀ u ∈ cs, u.oneCell' = true)
    (h63 : n + 1 ≤ maxLen) (hbytes : (n + 1) * bytes ≤ 140737488355328) (hbase : base ≤ w0.heap.size) (hni : NoInt w0 v) (hzi : ∀ u ∈ z.cells.toList, noI u) (hnn : ∀ u ∈ cs, noI u)
    (h : ∀ g cap w', w'.ownsRow base e size (.slice (some ⟨g, 0, none⟩) (n + 1) cap) (n + 1) (xs ++ cs) → Below base w0 w' → w0.grownBy w' v.ownBlock → NoInt w' (.slice (some ⟨g, 0, none⟩) (n + 1) cap) → K (a.put o.dst (.slice (some ⟨g, 0, none⟩) (n + 1) cap)) w') :
    if Region.wanted o (yielded ops a.tmps) = true then Oper.wp P o a (w0.alloc (.cells cs.toArray e)) K Q else E := by
  have hw : Region.wanted o (yielded ops a.tmps) = true := by simp [Region.wanted, hgd]
  rw [if_pos hw]
  have own1 := hown.alloc (.cells cs.toArray e)
  have ni1 : NoInt (w0.alloc (.cells cs.toArray e)) v := by
    intro g hg j u hu
    have hlt := (hown.lt g hg).2
    rw [((Below.refl _ w0).alloc (Nat.le_refl _) (.cells cs.toArray e)).cell (p := ⟨g, j, none⟩) hlt] at hu
    exact hni g hg j u hu
  obtain ⟨v', w', hr, h2, h3, h4⟩ := app_ni (P := P) (w0.alloc (.cells cs.toArray e)) base t o.type e i z size bytes ht hi hz hsize hby hzs hsz v n xs own1 ⟨w0.heap.size, 0, none⟩ 1 cs (by simp [hcs]) (news_at w0 cs e) h1 h63 hbytes (by simp; omega) ni1 hzi hnn
  unfold Oper.wp execOp
  simp only [ho, resolve, invoke, builtin, Sem.run_bind, Sem.run_pure, Result.andThen_ok, List.map_toArray, List.map_cons, List.map_nil, hs, hx, hr]
  have hb := ((Below.refl base w0).alloc hbase (.cells cs.toArray e)).grown h3 (by simp; omega) (fun k hk => (hown.lt k hk).1)
  have hg : w0.grownBy w' v.ownBlock := ⟨h3.os, h3.tape, h3.output, Nat.le_trans (by simp) h3.size, fun k hk hne => (h3.block k (by simp; omega) hne).trans (Below.heap_alloc w0 _ k hk)⟩
  rcases h2.2 with ⟨_, hn⟩ | ⟨g, cap, _, hv, _⟩
  · omega
  · subst hv
    exact h g cap w' h2 hb hg h4
theorem step_app {P : Program} {ops : Array Oper} {o : Oper} {a : Act} {K : Act → World → Prop} {Q : Exit → Act → World → Prop} {E : Prop} {w0 : World} (hgd : o.guard = none) (s x : Operand) (t : TypeId)
    (ho : o.op = .call { callee := .builtin .append, args := #[s, x], argTypes := #[t, t] })
    (base : Nat) (e : TypeId) (i : TypeInfo) (z : Value) (size bytes : Nat) (cs : List Value) (ht : P.underlying t = some (.slice e)) (hi : P.info? e = some i) (hz : i.zero = some z)
    (hsize : i.size = size) (hby : i.bytes = bytes) (hcs : cs.length = size) (hzs : z.cells.size = size) (hsz : 0 < size)
    (v : Value) (n : Nat) (xs : List Value) (hs : a.eval s = v) (hown : w0.ownsRow base e size v n xs)
    (hx : a.eval x = .slice (some ⟨w0.heap.size, 0, none⟩) 1 1) (h1 : ∀ u ∈ cs, u.oneCell' = true)
    (h63 : n + 1 ≤ maxLen) (hbytes : (n + 1) * bytes ≤ 140737488355328) (hbase : base ≤ w0.heap.size)
    (h : ∀ g cap w', w'.ownsRow base e size (.slice (some ⟨g, 0, none⟩) (n + 1) cap) (n + 1) (xs ++ cs) → Below base w0 w' → w0.grownBy w' v.ownBlock → K (a.put o.dst (.slice (some ⟨g, 0, none⟩) (n + 1) cap)) w') :
    if Region.wanted o (yielded ops a.tmps) = true then Oper.wp P o a (w0.alloc (.cells cs.toArray e)) K Q else E := by
  have hw : Region.wanted o (yielded ops a.tmps) = true := by simp [Region.wanted, hgd]
  rw [if_pos hw]
  refine wp_append_own (w := w0.alloc (.cells cs.toArray e)) s x t ho base e i z size bytes ht hi hz hsize hby hzs hsz v n xs hs (hown.alloc _) ⟨w0.heap.size, 0, none⟩ 1 1 cs hx (by simp [hcs]) (news_at w0 cs e) h1 h63 hbytes (by simp; omega) fun v' w' h2 h3 _ => ?_
  have hb := ((Below.refl base w0).alloc hbase (.cells cs.toArray e)).grown h3 (by simp; omega) (fun k hk => (hown.lt k hk).1)
  have hg : w0.grownBy w' v.ownBlock := ⟨h3.os, h3.tape, h3.output, Nat.le_trans (by simp) h3.size, fun k hk hne => (h3.block k (by simp; omega) hne).trans (Below.heap_alloc w0 _ k hk)⟩
  have h2' := h2
  rcases h2.2 with ⟨_, hn⟩ | ⟨g, cap, _, hv, _⟩
  · omega
  · subst hv
    exact h g cap w' h2' hb hg
theorem Rd.grown {k : IntKind} {w w' : World} {v u : Value} {l : List Nat} (h : Rd k w v l) (hg : w.grownBy w' u.ownBlock) (hn : NoInt w u) : Rd k w' v l := by
  obtain ⟨a, cap, hv, hl, hc⟩ := h
  refine ⟨a, cap, hv, hl, fun h0 => ?_⟩
  obtain ⟨g, off, ha, hcc⟩ := hc h0
  refine ⟨g, off, ha, fun j hj => hg.cell (hcc j hj) fun e => ?_⟩
  exact hn g e.symm _ _ (hcc j hj) _ _ rfl
def absI (n : Int) : Int := if n < 0 then -n else n
theorem size_any (n : Int) (w : World) (h0 : -9000000000000000000 ≤ n) (h1 : n ≤ 9000000000000000000) : Calls Try.prog 94 #[.int .i64 n] w fun e w' => e = .returned (.int .i64 (absI n)) ∧ w = w' := by
  by_cases h : n < 0
  · have e : absI n = -n := if_pos h
    rw [e]; clear e
    go_enter Try.func94, Try.ntmps94
    go_wp2
    go_ret
    exact ⟨rfl, rfl⟩
  · have e : absI n = n := if_neg h
    rw [e]; clear e
    go_enter Try.func94, Try.ntmps94
    go_wp2
    go_ret
    exact ⟨rfl, rfl⟩
def bendI (a b c : Int) : Int := absI (a - 2 * b + c)
theorem bend_any (a b c : Int) (w : World) (ha : -1000000000 ≤ a ∧ a ≤ 1000000000) (hb : -1000000000 ≤ b ∧ b ≤ 1000000000) (hc : -1000000000 ≤ c ∧ c ≤ 1000000000) :
    Calls Try.prog 93 #[.int .i64 a, .int .i64 b, .int .i64 c] w fun e w' => e = .returned (.int .i64 (bendI a b c)) ∧ w = w' := by
  go_enter Try.func93, Try.ntmps93
  go_wp2_with (first | (go_at_call 94; refine (size_any _ _ (by omega) (by omega)).mono ?_; rintro e w' ⟨rfl, rfl⟩))
  go_ret
  exact ⟨rfl, rfl⟩
/-- the nearest whole number, by a number above 0 -/
def nearI (n b : Int) : Int := (2 * n + b) / (2 * b)
/-- n points -/
def PtAt (W : World) (g off n : Nat) (X Y : Nat → Int) : Prop := ∀ j, j < n → W.cell? ⟨g, off + j * 2, none⟩ = some (.int .i64 (X j)) ∧ W.cell? ⟨g, off + j * 2 + 1, none⟩ = some (.int .i64 (Y j))
theorem PtAt.later {W W1 : World} {g off n : Nat} {X Y : Nat → Int} (h : PtAt W g off n X Y) (hb : Below W.heap.size W W1) : PtAt W1 g off n X Y := fun j hj => ⟨cell_later hb (h j hj).1, cell_later hb (h j hj).2⟩
def fitsTo (X Y : Nat → Int) : Nat → Bool
  | 0 => true
  | k + 1 => fitsTo X Y k && fits (X k) (Y k)
theorem fitsTo_lt {X Y : Nat → Int} {n k : Nat} (hk : k < n) (h : fits (X k) (Y k) = false) : fitsTo X Y n = false := by
  induction n with
  | zero => omega
  | succ n ih =>
    by_cases e : k = n
    · subst e; simp [fitsTo, h]
    · simp [fitsTo, ih (by omega)]
theorem fitsTo_at {X Y : Nat → Int} {n k : Nat} (hk : k < n) (h : fitsTo X Y n = true) : fits (X k) (Y k) = true := by
  cases e : fits (X k) (Y k)
  · rw [fitsTo_lt hk e] at h; cases h
  · rfl
def FRel (X Y : Nat → Int) (w : World) (k : Nat) (wr : World) : Prop := fitsTo X Y k = true ∧ Below w.heap.size w wr
set_option maxHeartbeats 1600000 in
theorem bfits_any (g off n cap : Nat) (X Y : Nat → Int) (w : World) (hn : n ≤ 1000) (h : PtAt w g off n X Y) :
    Calls Try.prog 92 #[.slice (some ⟨g, off, none⟩) n cap] w fun e w' => e = .returned (.bool (fitsTo X Y n)) ∧ Below w.heap.size w w' := by
  have H := Lib.hid h
  clear h
  go_enter Try.func92, Try.ntmps92
  go_wp2_with fail
  go_loopw [7] (fun i wr => ∃ k : Nat, k ≤ n ∧ i = .int .i64 k ∧ FRel X Y w k wr) (fun i _ => n - (intOf i).toNat)
  case atStart => exact ⟨0, Nat.zero_le _, rfl, rfl, Below.refl _ _⟩
  case round =>
    obtain ⟨k, hk, rfl, hf, hb⟩ := hrel
    by_cases hlt : k < n
    · obtain ⟨c0, c1⟩ := H.out k hlt
      have d0 := cell_later hb c0
      have d1 := cell_later hb c1
      have F := Lib.hid (And.intro hf hb)
      clear c0 c1 hf hb
      cases hfit : fits (X k) (Y k)
      · go_wp2_with (go_at_call 75; refine (fits_any _ _ _).mono ?_; rintro e w' ⟨rfl, rfl⟩)
        go_ret
        have hz := F.out.2.size
        have hbw := F.out.2
        refine ⟨by rw [fitsTo_lt hlt hfit]; rfl, ?_⟩
        ((repeat' (first | with_reducible exact Below.refl _ _ | with_reducible assumption | with_reducible refine Below.drew ?_ | with_reducible refine Below.alloc ?_ ?_ _ | with_reducible refine Below.setCell ?_ ?_ _)) <;> (first | omega | (simp; done) | (simp; omega)))
      · go_wp2_with (go_at_call 75; refine (fits_any _ _ _).mono ?_; rintro e w' ⟨rfl, rfl⟩)
        have hz := F.out.2.size
        go_roundw
        case rel =>
          refine ⟨k + 1, by omega, by go_num, by simp [fitsTo, hfit, F.out.1], ?_⟩
          have hbw := F.out.2
          ((repeat' (first | with_reducible exact Below.refl _ _ | with_reducible assumption | with_reducible refine Below.drew ?_ | with_reducible refine Below.alloc ?_ ?_ _ | with_reducible refine Below.setCell ?_ ?_ _)) <;> (first | omega | (simp; done) | (simp; omega)))
        case measure => simp [intOf]; omega
    · obtain rfl : k = n := by omega
      have F := Lib.hid (And.intro hf hb)
      clear hf hb
      go_wp2_with fail
      go_ret
      exact ⟨by rw [F.out.1]; rfl, F.out.2⟩
theorem bendI_le {a b c : Int} (ha : -8388607 ≤ a ∧ a ≤ 8388607) (hb : -8388607 ≤ b ∧ b ≤ 8388607) (hc : -8388607 ≤ c ∧ c ≤ 8388607) : 0 ≤ bendI a b c ∧ bendI a b c ≤ 40000000 := by unfold bendI absI; split <;> omega
def max3 (a b c : Int) : Int := if (if a < b then b else a) < c then c else (if a < b then b else a)
/-- the greatest bend of the first p threes of points -/
def dTo (X Y : Nat → Int) : Nat → Int
  | 0 => 0
  | p + 1 => max3 (dTo X Y p) (bendI (X p) (X (p + 1)) (X (p + 2))) (bendI (Y p) (Y (p + 1)) (Y (p + 2)))
/-- of how many pieces: from k on, at most fuel more -/
def pcFrom (d : Int) : Nat → Nat → Nat
  | 0, k => k
  | f + 1, k => if 16 * (k : Int) * k < d then pcFrom d f (k + 1) else k
def pc (d : Int) : Nat := pcFrom d 31 1
theorem pcFrom_le (d : Int) (f k : Nat) : k ≤ pcFrom d f k ∧ pcFrom d f k ≤ k + f := by
  induction f generalizing k with
  | zero => exact ⟨Nat.le_refl _, Nat.le_refl _⟩
  | succ f ih =>
    unfold pcFrom
    split
    · have := ih (k + 1); omega
    · omega
theorem pc_le (d : Int) : 1 ≤ pc d ∧ pc d ≤ 32 := pcFrom_le d 31 1
theorem within_iff {n m : Int} (h : within n m = true) : -m ≤ n ∧ n ≤ m := by simpa [within] using h
theorem fits_iff {x y : Int} (h : fits x y = true) : (-8388607 ≤ x ∧ x ≤ 8388607) ∧ (-8388607 ≤ y ∧ y ≤ 8388607) := by
  unfold fits at h
  rw [Bool.and_eq_true] at h
  exact ⟨within_iff h.1, within_iff h.2⟩
theorem dTo_le {X Y : Nat → Int} {n p : Nat} (hp : p + 2 ≤ n ∨ p = 0) (h : fitsTo X Y n = true) : 0 ≤ dTo X Y p ∧ dTo X Y p ≤ 40000000 := by
  induction p with
  | zero => exact ⟨Int.le_refl _, by unfold dTo; omega⟩
  | succ p ih =>
    have hi := ih (by omega)
    obtain ⟨a1, a2⟩ := fits_iff (fitsTo_at (k := p) (by omega) h)
    obtain ⟨b1, b2⟩ := fits_iff (fitsTo_at (k := p + 1) (by omega) h)
    obtain ⟨c1, c2⟩ := fits_iff (fitsTo_at (k := p + 2) (by omega) h)
    have e1 := bendI_le a1 b1 c1
    have e2 := bendI_le a2 b2 c2
    unfold dTo max3
    repeat' split
    all_goals omega
theorem below_drewN {B : Nat} {a w : World} (h : Below B a w) (m : Nat) : Below B a (w.drewN m) := ⟨h.os, h.tape, h.output, h.size, h.block⟩
def piecesN (X Y : Nat → Int) (n : Nat) : Nat := if fitsTo X Y n = true then pc (dTo X Y (n - 2)) else 0
set_option maxHeartbeats 4000000 in
theorem pieces_any (g off n cap : Nat) (X Y : Nat → Int) (w : World) (hn : n ≤ 1000) (h : PtAt w g off n X Y) :
    Calls Try.prog 88 #[.slice (some ⟨g, off, none⟩) n cap] w fun e w' => e = .returned (.int .i64 (piecesN X Y n)) ∧ Below w.heap.size w w' := by
  cases hfit : fitsTo X Y n
  · have hv : piecesN X Y n = 0 := by unfold piecesN; rw [hfit]; rfl
    rw [hv]; clear hv
    have HH := Lib.hid h
    clear h
    go_enter Try.func88, Try.ntmps88
    go_wp2_with fail
    refine (bfits_any g off n cap X Y w hn HH.out).mono ?_
    rintro e w1 ⟨rfl, hb⟩
    rw [hfit]
    go_wp2_with fail
    go_ret
    exact ⟨rfl, hb⟩
  · have hv : piecesN X Y n = pc (dTo X Y (n - 2)) := by unfold piecesN; rw [if_pos hfit]
    rw [hv]; clear hv
    have HF := Lib.hid hfit
    have HH := Lib.hid h
    clear h
    go_enter Try.func88, Try.ntmps88
    go_wp2_with fail
    refine (bfits_any g off n cap X Y w hn HH.out).mono ?_
    rintro e w1 ⟨rfl, hb⟩
    rw [hfit]
    clear hfit
    have HH1 := Lib.hid (HH.out.later hb)
    have HB := Lib.hid hb
    clear hb HH
    go_wp2_with fail
    go_loopw [3, 4] (fun d i wr => ∃ p : Nat, (p + 2 ≤ n ∨ p = 0) ∧ i = .int .i64 (p + 2 : Nat) ∧ d = .int .i64 (dTo X Y p) ∧ Below w1.heap.size w1 wr) (fun _ i _ => n + 2 - (intOf i).toNat)
    case atStart => exact ⟨0, Or.inr rfl, rfl, rfl, Below.refl _ _⟩
    case round =>
      obtain ⟨p, hp, rfl, rfl, hb⟩ := hrel
      by_cases hlt : p + 2 < n
      · obtain ⟨c0, c1⟩ := HH1.out p (by omega)
        obtain ⟨c2, c3⟩ := HH1.out (p + 1) (by omega)
        obtain ⟨c4, c5⟩ := HH1.out (p + 2) (by omega)
        have d0 := cell_later hb c0
        have d1 := cell_later hb c1
        have d2 := cell_later hb c2
        have d3 := cell_later hb c3
        have d4 := cell_later hb c4
        have d5 := cell_later hb c5
        clear c0 c1 c2 c3 c4 c5
        obtain ⟨a1, a2⟩ := fits_iff (fitsTo_at (k := p) (by omega) HF.out)
        obtain ⟨b1, b2⟩ := fits_iff (fitsTo_at (k := p + 1) (by omega) HF.out)
        obtain ⟨e1, e2⟩ := fits_iff (fitsTo_at (k := p + 2) (by omega) HF.out)
        have D := Lib.hid (dTo_le (p := p) (by omega) HF.out)
        have HB1 := Lib.hid hb
        clear hb
        obtain ⟨x0, hx0⟩ : ∃ x, x = X p := ⟨_, rfl⟩
        obtain ⟨x1, hx1⟩ : ∃ x, x = X (p + 1) := ⟨_, rfl⟩
        obtain ⟨x2, hx2⟩ : ∃ x, x = X (p + 2) := ⟨_, rfl⟩
        obtain ⟨y0, hy0⟩ : ∃ x, x = Y p := ⟨_, rfl⟩
        obtain ⟨y1, hy1⟩ : ∃ x, x = Y (p + 1) := ⟨_, rfl⟩
        obtain ⟨y2, hy2⟩ : ∃ x, x = Y (p + 2) := ⟨_, rfl⟩
        obtain ⟨dd, hdd⟩ : ∃ x, x = dTo X Y p := ⟨_, rfl⟩
        have hnext : dTo X Y (p + 1) = max3 dd (bendI x0 x1 x2) (bendI y0 y1 y2) := by subst hx0 hx1 hx2 hy0 hy1 hy2 hdd; rfl
        have HN := Lib.hid hnext
        clear hnext
        rw [← hx0] at d0 a1
        rw [← hy0] at d1 a2
        rw [← hx1] at d2 b1
        rw [← hy1] at d3 b2
        rw [← hx2] at d4 e1
        rw [← hy2] at d5 e2
        rw [← hdd] at D
        rw [← hdd]
        clear hx0 hx1 hx2 hy0 hy1 hy2 hdd
        go_wp2_with fail

        go_quiet (first | (go_at_call 93; exact Calls.quiet_of_same ((bend_any _ _ _ _ (by omega) (by omega) (by omega)).mono (by rintro e w2 ⟨rfl, rfl⟩; exact ⟨rfl, rfl⟩))))
        go_wp2_with fail
        go_roundw
        case rel =>
          refine ⟨p + 1, by omega, by go_num, by rw [HN.out]; rfl, ?_⟩
          exact below_drewN HB1.out nq
        case measure => simp [intOf]; omega
      · have hpn : p = n - 2 := by omega
        have D := dTo_le hp HF.out
        have HB1 := Lib.hid hb
        clear hb
        obtain ⟨dd, hdd⟩ : ∃ x, x = dTo X Y p := ⟨_, rfl⟩
        rw [← hdd] at D ⊢
        have HQ : Hid (dTo X Y (n - 2) = dd) := Lib.hid (by rw [hdd, hpn])
        clear hdd hpn
        obtain ⟨D1, D2⟩ := D
        obtain ⟨ii, hii⟩ : ∃ ii : Int, ii = ((p + 2 : Nat) : Int) := ⟨_, rfl⟩
        rw [← hii]
        have hi1 : ¬ ii < (n : Int) := by omega
        have hi2 : ii ≤ 100000 := by omega
        clear hii
        go_wp2_with fail
        go_loopw [5] (fun i wz => ∃ k : Nat, 1 ≤ k ∧ k ≤ 32 ∧ i = .int .i64 k ∧ pcFrom dd (32 - k) k = pc dd ∧ Below w1.heap.size w1 wz) (fun i _ => 33 - (intOf i).toNat)
        case atStart => exact ⟨1, by omega, by omega, rfl, rfl, HB1.out⟩
        case round =>
          obtain ⟨k, hk1, hk2, rfl, hpc, hbz⟩ := hrel
          have HZ := Lib.hid hbz
          clear hbz
          have HP := Lib.hid hpc
          clear hpc
          by_cases hk : k < 32
          · have m1 := mul_bd (a := 16 * (k : Int)) (x := (k : Int)) (A := 512) (X := 32) (by omega) (by omega)
            simp only [Int.reduceMul, Int.reduceNeg] at m1
            obtain ⟨m11, m12⟩ := m1
            by_cases hd : 16 * (k : Int) * k < dd
            · go_wp2_with fail
              go_roundw
              case rel =>
                refine ⟨k + 1, by omega, by omega, by go_num, ?_, HZ.out⟩
                have h := HP.out
                have e : 32 - k = (32 - (k + 1)) + 1 := by omega
                rw [e] at h
                unfold pcFrom at h
                rw [if_pos hd] at h
                exact h
              case measure => simp [intOf]; omega
            · go_wp2_with fail
              go_ret
              refine ⟨?_, ?_⟩
              · have h := HP.out
                have e : 32 - k = (32 - (k + 1)) + 1 := by omega
                rw [e] at h
                unfold pcFrom at h
                rw [if_neg (by omega)] at h
                rw [HQ.out, ← h]; rfl
              · exact Below.trans HB.out (HZ.out.mono HB.out.size)
          · have ek : k = 32 := by omega
            subst ek
            go_wp2_with fail
            go_ret
            refine ⟨?_, ?_⟩
            · have h := HP.out
              rw [HQ.out, ← h]; rfl
            · exact Below.trans HB.out (HZ.out.mono HB.out.size)
/-- the weight of point j, m points, k of n of the way -/
def wt (m k n j : Nat) : Int :=
  if m = 3 then (if j = 0 then ((n : Int) - k) * ((n : Int) - k) else if j = 1 then 2 * ((n : Int) - k) * k else if j = 2 then (k : Int) * k else 0)
  else (if j = 0 then ((n : Int) - k) * ((n : Int) - k) * ((n : Int) - k) else if j = 1 then 3 * ((n : Int) - k) * ((n : Int) - k) * k else if j = 2 then 3 * ((n : Int) - k) * k * k else (k : Int) * k * k)
def byI (m n : Nat) : Int := if m = 3 then (n : Int) * n else (n : Int) * n * n
/-- the weighted sum of the first i points -/
def sumW (W X : Nat → Int) : Nat → Int
  | 0 => 0
  | i + 1 => sumW W X i + W i * X i
def partN (X : Nat → Int) (m n k : Nat) : Int := nearI (sumW (wt m k n) X m) (byI m n)
def ptsTo (X Y : Nat → Int) (m n : Nat) : Nat → List Value
  | 0 => []
  | k + 1 => ptsTo X Y m n k ++ [.int .i64 (partN X m n (k + 1)), .int .i64 (partN Y m n (k + 1))]
theorem ptsTo_length (X Y : Nat → Int) (m n k : Nat) : (ptsTo X Y m n k).length = k * 2 := by
  induction k with
  | zero => rfl
  | succ k ih => simp [ptsTo, ih]; omega
theorem ptsTo_get (X Y : Nat → Int) (m n k j : Nat) (h : j < k) : (ptsTo X Y m n k)[j * 2]? = some (.int .i64 (partN X m n (j + 1))) ∧ (ptsTo X Y m n k)[j * 2 + 1]? = some (.int .i64 (partN Y m n (j + 1))) := by
  induction k with
  | zero => omega
  | succ k ih =>
    have hl := ptsTo_length X Y m n k
    by_cases e : j = k
    · subst e
      unfold ptsTo
      constructor
      · rw [List.getElem?_append_right (by omega), hl]; simp
      · rw [List.getElem?_append_right (by omega), hl]; simp
    · have h1 := ih (by omega)
      unfold ptsTo
      rw [List.getElem?_append_left (by omega), List.getElem?_append_left (by omega)]
      exact h1
/-- a slice of n points -/
def RdP (B : Nat) (w : World) (v : Value) (n : Nat) (X Y : Nat → Int) : Prop := ∃ g off cap, v = .slice (some ⟨g, off, none⟩) n cap ∧ B ≤ g ∧ g < w.heap.size ∧ PtAt w g off n X Y
theorem RdP.of_owns {w : World} {B : Nat} {v : Value} {n k : Nat} {X Y : Nat → Int} {m : Nat} (h0 : 0 < k) (h : w.ownsRow B 35 2 v k (ptsTo X Y m n k)) : RdP B w v k (fun j => partN X m n (j + 1)) (fun j => partN Y m n (j + 1)) := by
  rcases h.2 with ⟨hv, h0⟩ | ⟨g, cap, cur, hv, hg, hh, _, _, _, htake⟩
  · omega
  · refine ⟨g, 0, cap, hv, hg, ?_, fun j hj => ?_⟩
    · exact (h.lt g (by rw [hv]; rfl)).2
    · have hadd : ∀ i, (⟨g, 0, none⟩ : Addr).add i = ⟨g, 0 + i, none⟩ := by intro i; unfold Addr.add; split <;> simp_all
      have hc := h.cells (g := g) (by rw [hv]; rfl) (j * 2) _ (ptsTo_get X Y m n k j hj).1
      have hd := h.cells (g := g) (by rw [hv]; rfl) (j * 2 + 1) _ (ptsTo_get X Y m n k j hj).2
      rw [hadd] at hc hd
      exact ⟨hc, hd⟩
theorem own_later {w w' : World} {B : Nat} {e : TypeId} {size : Nat} {v : Value} {n : Nat} {xs : List Value} (h : w.ownsRow B e size v n xs) (hb : Below w.heap.size w w') : w'.ownsRow B e size v n xs :=
  h.kept (row := none) ⟨hb.os, hb.tape, hb.output, hb.size, fun i hi _ => hb.block i hi⟩ (by cases v.ownBlock <;> simp)
def quadX (l : Nat → Int) (j : Nat) : Int := l (j * 2)
def quadY (l : Nat → Int) (j : Nat) : Int := l (j * 2 + 1)
theorem cell_new_at {w : World} {cs : Array Value} {e : TypeId} {b k : Nat} (h : b = w.heap.size) : (w.alloc (.cells cs e)).cell? ⟨b, k, none⟩ = cs[k]? := by subst h; rw [World.cell?_alloc_new]
abbrev Pt := Int × Int
def usesI (op : Int) : Int := if op = 1 then 1 else if op = 2 then 1 else if op = 3 then 2 else if op = 4 then 3 else if op = 5 then 0 else -1
def usesN (op : Int) : Nat := (usesI op).toNat
def sX (s : Nat → Int) (k : Nat) : Int := s (1 + 2 * k)
def sY (s : Nat → Int) (k : Nat) : Int := s (2 + 2 * k)
/-- what is wrong with a step -/
def rightE (s : Nat → Int) (behind : Int) : Int := if usesI (s 0) < 0 then 2 else if s 0 ≠ 1 ∧ (behind = 0 ∨ behind = 5) then 12 else if fitsTo (sX s) (sY s) (usesN (s 0)) = true then 0 else 4
def beh (F : Nat → Nat → Int) : Nat → Int
  | 0 => 0
  | i + 1 => F i 0
def chk (F : Nat → Nat → Int) : Nat → Int
  | 0 => 0
  | i + 1 => if chk F i = 0 then rightE (F i) (beh F i) else chk F i
def checkE (F : Nat → Nat → Int) (n : Nat) : Int := if 200 < n then 7 else chk F n
theorem chk_stays {F : Nat → Nat → Int} {i n : Nat} (h : chk F i ≠ 0) (hi : i ≤ n) : chk F n = chk F i := by
  induction n with
  | zero => obtain rfl : i = 0 := by omega
            rfl
  | succ n ih =>
    by_cases e : i = n + 1
    · rw [e]
    · have := ih (by omega)
      show (if chk F n = 0 then rightE (F n) (beh F n) else chk F n) = _
      rw [this, if_neg h]
theorem chk_at {F : Nat → Nat → Int} {i n : Nat} (h : chk F n = 0) (hi : i < n) : rightE (F i) (beh F i) = 0 := by
  have h1 : chk F (i + 1) = 0 := by
    apply Classical.byContradiction
    intro hne
    have := chk_stays hne (show i + 1 ≤ n by omega)
    omega
  have h2 : chk F i = 0 := by
    apply Classical.byContradiction
    intro hne
    have := chk_stays hne (show i ≤ n by omega)
    omega
  unfold chk at h1
  rwa [if_pos h2] at h1
/-- how far a path's lines have come -/
structure TS where
  done : List (List Pt × Bool)
  now : List Pt
  pos : Pt
def TS.add (t : TS) (p : Pt) : TS := ⟨t.done, if t.now = [] ∨ p ≠ t.pos then t.now ++ [p] else t.now, p⟩
/-- a curve's points: where one is, and the step's -/
def crv (p : Pt) (s : Nat → Int) : Nat → Int := fun i => if i = 0 then p.1 else if i = 1 then p.2 else s (i - 1)
def crvN (m : Nat) (p : Pt) (s : Nat → Int) : Nat := piecesN (quadX (crv p s)) (quadY (crv p s)) m
theorem crvN_le (m : Nat) (p : Pt) (s : Nat → Int) : crvN m p s ≤ 32 := by
  unfold crvN piecesN
  split
  · exact (pc_le _).2
  · omega
theorem add_len (t : TS) (p : Pt) : (t.add p).now.length ≤ t.now.length + 1 ∧ (t.add p).done = t.done := by
  unfold TS.add
  constructor
  · show (if _ then _ else _ : List Pt).length ≤ _
    split <;> simp
  · rfl
/-- a block of ours whose first cells are cs -/
def BxAt (w : World) (g : Nat) (cs : List Value) : Prop := g < w.heap.size ∧ (∀ k, w.frozen? ⟨g, k, none⟩ = false) ∧ ∀ k u, cs[k]? = some u → w.cell? ⟨g, k, none⟩ = some u
theorem BxAt.later {w w1 : World} {g : Nat} {cs : List Value} (h : BxAt w g cs) (hb : Below w.heap.size w w1) : BxAt w1 g cs :=
  ⟨Nat.lt_of_lt_of_le h.1 hb.size, fun k => frozen_later hb h.1 (h.2.1 k), fun k u hu => cell_later hb (h.2.2 k u hu)⟩
theorem BxAt.new (w : World) (cs : List Value) (t : TypeId) : BxAt (w.alloc (.cells cs.toArray t)) w.heap.size cs :=
  ⟨by simp, fun k => by simp [go_sem], fun k u hu => by rw [World.cell?_alloc_new]; simpa using hu⟩
theorem below_alloc (w : World) (o : Obj) : Below w.heap.size w (w.alloc o) := (Below.refl _ _).alloc (Nat.le_refl _) _
theorem bthen {w w1 w2 : World} (h : Below w.heap.size w w1) (k : Below w1.heap.size w1 w2) : Below w.heap.size w w2 := h.trans (k.mono h.size)
theorem bel_drew {m : Nat} {W W1 : World} (h : Below m W.drew W1) : Below m W W1 := ⟨h.os, h.tape, h.output, h.size, h.block⟩
theorem bel2 (w : World) (o o2 : Obj) : Below w.heap.size w ((w.alloc o).alloc o2) := bthen (below_alloc w o) (below_alloc _ o2)
theorem BxAt.other {w : World} {g : Nat} {cs : List Value} (h : BxAt w g cs) (i k : Nat) (x u : Value) (hne : i ≠ k) (hu : cs[k]? = some u) : (w.setCell ⟨g, i, none⟩ x).cell? ⟨g, k, none⟩ = some u := by
  rw [World.cell?_setCell_other]
  · exact h.2.2 k u hu
  · intro e; simp only [Addr.mk.injEq] at e; omega
theorem BxAt.put {w : World} {g : Nat} {cs : List Value} (h : BxAt w g cs) (i : Nat) (x : Value) (hi : i < cs.length) : BxAt (w.setCell ⟨g, i, none⟩ x) g (cs.set i x) := by
  refine ⟨by simpa using h.1, fun k => by rw [World.frozen?_setCell]; exact h.2.1 k, fun k u hu => ?_⟩
  rw [List.getElem?_set] at hu
  by_cases e : i = k
  · subst e
    rw [if_pos rfl, if_pos hi] at hu
    rw [World.cell?_setCell_same _ _ _ (h.2.2 i cs[i] (List.getElem?_eq_getElem hi))]
    exact hu
  · rw [if_neg e] at hu
    exact h.other i k x u e hu
def RetPost (v : Value) (w : World) (e : Ending) (w' : World) : Prop := e = .returned v ∧ Below w.heap.size w w'
theorem uses_any (op : Int) (w : World) : Calls Try.prog 89 #[.int .i64 op] w fun e w' => e = .returned (.int .i64 (usesI op)) ∧ w = w' := by
  by_cases h4 : op = 4
  · subst h4
    go_enter Try.func89, Try.ntmps89
    go_wp2
    go_ret
    exact ⟨rfl, rfl⟩
  by_cases h3 : op = 3
  · subst h3
    go_enter Try.func89, Try.ntmps89
    go_wp2
    go_ret
    exact ⟨rfl, rfl⟩
  by_cases h2 : op = 2
  · subst h2
    go_enter Try.func89, Try.ntmps89
    go_wp2
    go_ret
    exact ⟨rfl, rfl⟩
  by_cases h1 : op = 1
  · subst h1
    go_enter Try.func89, Try.ntmps89
    go_wp2
    go_ret
    exact ⟨rfl, rfl⟩
  by_cases h5 : op = 5
  · subst h5
    go_enter Try.func89, Try.ntmps89
    go_wp2
    go_ret
    exact ⟨rfl, rfl⟩
  have e : usesI op = -1 := by unfold usesI; rw [if_neg h1, if_neg h2, if_neg h3, if_neg h4, if_neg h5]
  rw [e]
  clear e
  go_enter Try.func89, Try.ntmps89
  go_wp2
  go_ret
  exact ⟨rfl, rfl⟩
theorem usesI_le (op : Int) : -1 ≤ usesI op ∧ usesI op ≤ 3 := by
  unfold usesI
  repeat' split
  all_goals omega
/-- a step's cells -/
abbrev stL (s : Nat → Int) : List Value := [.int .i64 (s 0), .int .i64 (s 1), .int .i64 (s 2), .int .i64 (s 3), .int .i64 (s 4), .int .i64 (s 5), .int .i64 (s 6)]
theorem st_pts {W : World} {A : Nat} {s : Nat → Int} (h : BxAt W A (stL s)) : PtAt W A 1 3 (sX s) (sY s) := by
  intro j hj
  have h4 : j = 0 ∨ j = 1 ∨ j = 2 := by omega
  rcases h4 with rfl | rfl | rfl
  · exact ⟨h.2.2 1 _ rfl, h.2.2 2 _ rfl⟩
  · exact ⟨h.2.2 3 _ rfl, h.2.2 4 _ rfl⟩
  · exact ⟨h.2.2 5 _ rfl, h.2.2 6 _ rfl⟩
set_option maxRecDepth 100000 in
set_option maxHeartbeats 3200000 in
theorem right_neg (x0 x1 x2 x3 x4 x5 x6 behind : Int) (w : World) (hneg : usesI x0 < 0) : Calls Try.prog 91 #[.agg #[.int .i64 x0, .int .i64 x1, .int .i64 x2, .int .i64 x3, .int .i64 x4, .int .i64 x5, .int .i64 x6], .int .i64 behind] w (RetPost (.int .i64 2) w) := by
  obtain ⟨w0, hw0⟩ : ∃ w0, w.alloc (.cells #[.int .i64 x0, .int .i64 x1, .int .i64 x2, .int .i64 x3, .int .i64 x4, .int .i64 x5, .int .i64 x6] 99) = w0 := ⟨_, rfl⟩
  have F0 : BxAt w0 w.heap.size [.int .i64 x0, .int .i64 x1, .int .i64 x2, .int .i64 x3, .int .i64 x4, .int .i64 x5, .int .i64 x6] := by rw [← hw0]; exact BxAt.new w _ _
  have B0 : Hid (Below w.heap.size w w0) := Lib.hid (by rw [← hw0]; exact below_alloc _ _)
  have UI := Lib.hid (fun W => uses_any x0 W)
  obtain ⟨u, hu⟩ : ∃ u, u = usesI x0 := ⟨_, rfl⟩
  rw [← hu] at UI hneg
  have i0 := F0.2.2 0 _ rfl
  clear hu F0
  go_enter Try.func91, Try.ntmps91
  go_wp2_with fail
  clear hw0
  refine (UI.out w0).mono ?_
  rintro e w1 ⟨rfl, rfl⟩
  go_wp2_with fail
  go_ret
  exact ⟨rfl, B0.out⟩
set_option maxRecDepth 100000 in
set_option maxHeartbeats 3200000 in
theorem right_bad (x0 x1 x2 x3 x4 x5 x6 behind : Int) (w : World) (hneg : ¬ usesI x0 < 0) (h1 : ¬ x0 = 1) (hb : behind = 0 ∨ behind = 5) : Calls Try.prog 91 #[.agg #[.int .i64 x0, .int .i64 x1, .int .i64 x2, .int .i64 x3, .int .i64 x4, .int .i64 x5, .int .i64 x6], .int .i64 behind] w (RetPost (.int .i64 12) w) := by
  obtain ⟨w0, hw0⟩ : ∃ w0, w.alloc (.cells #[.int .i64 x0, .int .i64 x1, .int .i64 x2, .int .i64 x3, .int .i64 x4, .int .i64 x5, .int .i64 x6] 99) = w0 := ⟨_, rfl⟩
  have F0 : BxAt w0 w.heap.size [.int .i64 x0, .int .i64 x1, .int .i64 x2, .int .i64 x3, .int .i64 x4, .int .i64 x5, .int .i64 x6] := by rw [← hw0]; exact BxAt.new w _ _
  have B0 : Hid (Below w.heap.size w w0) := Lib.hid (by rw [← hw0]; exact below_alloc _ _)
  have UI := Lib.hid (fun W => uses_any x0 W)
  obtain ⟨u, hu⟩ : ∃ u, u = usesI x0 := ⟨_, rfl⟩
  rw [← hu] at UI hneg
  have i0 := F0.2.2 0 _ rfl
  clear hu F0
  rcases hb with rfl | rfl
  all_goals
    go_enter Try.func91, Try.ntmps91
    go_wp2_with fail
    clear hw0
    refine (UI.out w0).mono ?_
    rintro e w1 ⟨rfl, rfl⟩
    go_wp2_with fail
    go_ret
    exact ⟨rfl, B0.out⟩
set_option maxRecDepth 100000 in
set_option maxHeartbeats 3200000 in
theorem right_go (x0 x1 x2 x3 x4 x5 x6 behind : Int) (X Y : Nat → Int) (n : Nat) (w : World) (hun : usesI x0 = (n : Int)) (hn3 : n ≤ 3) (hc : x0 = 1 ∨ ((x0 != 1) = true ∧ (behind == 0) = false ∧ (behind == 5) = false))
    (hP : ∀ W A, BxAt W A [.int .i64 x0, .int .i64 x1, .int .i64 x2, .int .i64 x3, .int .i64 x4, .int .i64 x5, .int .i64 x6] → PtAt W A 1 3 X Y) : Calls Try.prog 91 #[.agg #[.int .i64 x0, .int .i64 x1, .int .i64 x2, .int .i64 x3, .int .i64 x4, .int .i64 x5, .int .i64 x6], .int .i64 behind] w (RetPost (.int .i64 (if fitsTo X Y n = true then 0 else 4)) w) := by
  obtain ⟨w0, hw0⟩ : ∃ w0, w.alloc (.cells #[.int .i64 x0, .int .i64 x1, .int .i64 x2, .int .i64 x3, .int .i64 x4, .int .i64 x5, .int .i64 x6] 99) = w0 := ⟨_, rfl⟩
  have F0 : BxAt w0 w.heap.size [.int .i64 x0, .int .i64 x1, .int .i64 x2, .int .i64 x3, .int .i64 x4, .int .i64 x5, .int .i64 x6] := by rw [← hw0]; exact BxAt.new w _ _
  have B0 : Hid (Below w.heap.size w w0) := Lib.hid (by rw [← hw0]; exact below_alloc _ _)
  have UI := Lib.hid (fun W => uses_any x0 W)
  rw [hun] at UI
  have P0 := Lib.hid (hP _ _ F0)
  have i0 := F0.2.2 0 _ rfl
  obtain ⟨r, hr⟩ : ∃ r : Int, r = if fitsTo X Y n = true then 0 else 4 := ⟨_, rfl⟩
  have RR := Lib.hid hr
  rw [← hr]
  have hn4 : (0 : Int) ≤ (n : Int) := by omega
  have hn5 : (n : Int) ≤ 3 := by omega
  have hn6 : ¬ (n : Int) < 0 := by omega
  clear hun hP F0 hr
  have hdn : decide ((n : Int) < 0) = false := decide_eq_false hn6
  have hcc : x0 = 1 ∨ (x0 != 1) = true := hc.imp id (fun h => h.1)
  have hb0 : x0 = 1 ∨ (behind == 0) = false := hc.imp id (fun h => h.2.1)
  have hb5 : x0 = 1 ∨ (behind == 5) = false := hc.imp id (fun h => h.2.2)
  clear hc
  cases g0 : (behind == 0) <;> cases g5 : (behind == 5) <;> rcases hcc with rfl | h1
  all_goals (first | (exfalso; simp [g0] at hb0; simp [hb0] at h1; done) | (exfalso; simp [g5] at hb5; simp [hb5] at h1; done) | skip)
  all_goals clear hb0 hb5
  all_goals
    go_enter Try.func91, Try.ntmps91
    go_wp2_with fail
    clear hw0
    refine (UI.out w0).mono ?_
    rintro e w1 ⟨rfl, rfl⟩
    clear UI
    go_wp2_with fail
    try simp only [hdn]
    go_loopw [30] (fun i wr => ∃ k : Nat, k ≤ n ∧ i = .int .i64 k ∧ fitsTo X Y k = true ∧ Below w0.heap.size w0 wr) (fun i _ => n - (intOf i).toNat)
    case atStart => exact ⟨0, by omega, rfl, rfl, Below.refl _ _⟩
    case round =>
      obtain ⟨k, hk, rfl, hf, hb⟩ := hrel
      have HF := Lib.hid hf
      have B := Lib.hid hb
      clear hf hb
      by_cases hlt : k < n
      · obtain ⟨c0, c1⟩ := P0.out.later B.out k (by omega)
        obtain ⟨x, hx⟩ : ∃ x, x = X k := ⟨_, rfl⟩
        obtain ⟨y, hy⟩ : ∃ y, y = Y k := ⟨_, rfl⟩
        rw [← hx] at c0
        rw [← hy] at c1
        have HX := Lib.hid (And.intro hx hy)
        clear hx hy
        have hk0 : (0 : Int) ≤ (k : Int) := by omega
        have hk3 : (k : Int) < (n : Int) := by omega
        go_wp2_with fail
        refine (fits_any x y _).mono ?_
        rintro e w2 ⟨rfl, hw2⟩
        have B2 : Hid (Below w0.heap.size w0 w2) := Lib.hid (by rw [hw2]; exact bthen B.out (bel2 _ _ _))
        clear hw2
        cases hfit : fits x y
        · have e : r = 4 := by
            rw [RR.out, if_neg]
            rw [fitsTo_lt hlt (by rw [← HX.out.1, ← HX.out.2]; exact hfit)]
            simp
          subst e
          go_wp2_with fail
          go_ret
          exact ⟨rfl, bthen B0.out B2.out⟩
        · have HK : Hid (fitsTo X Y (k + 1) = true) := Lib.hid (by unfold fitsTo; rw [HF.out, ← HX.out.1, ← HX.out.2, hfit]; rfl)
          clear hfit
          go_wp2_with fail
          refine ⟨⟨k + 1, by omega, by go_num, HK.out, B2.out⟩, by (first | (simp [intOf]; done) | (simp [intOf]; omega) | (simp only [intOf]; omega))⟩
      · have ek : k = n := by omega
        subst ek
        have e : r = 0 := by rw [RR.out, if_pos HF.out]
        subst e
        go_wp2_with fail
        go_ret
        exact ⟨rfl, bthen B0.out B.out⟩
theorem right_any (s : Nat → Int) (behind : Int) (w : World) :
    Calls Try.prog 91 #[.agg #[.int .i64 (s 0), .int .i64 (s 1), .int .i64 (s 2), .int .i64 (s 3), .int .i64 (s 4), .int .i64 (s 5), .int .i64 (s 6)], .int .i64 behind] w (RetPost (.int .i64 (rightE s behind)) w) := by
  have ul := usesI_le (s 0)
  by_cases hneg : usesI (s 0) < 0
  · have e : rightE s behind = 2 := by unfold rightE; rw [if_pos hneg]
    rw [e]
    exact right_neg _ _ _ _ _ _ _ _ _ hneg
  by_cases hbad : s 0 ≠ 1 ∧ (behind = 0 ∨ behind = 5)
  · have e : rightE s behind = 12 := by unfold rightE; rw [if_neg hneg, if_pos hbad]
    rw [e]
    exact right_bad _ _ _ _ _ _ _ _ _ hneg hbad.1 hbad.2
  have e : rightE s behind = if fitsTo (sX s) (sY s) (usesN (s 0)) = true then 0 else 4 := by unfold rightE; rw [if_neg hneg, if_neg hbad]
  rw [e]
  refine right_go _ _ _ _ _ _ _ _ (sX s) (sY s) (usesN (s 0)) w (by unfold usesN; omega) (by unfold usesN; omega) ?_ (fun W A h => st_pts h)
  by_cases h1 : s 0 = 1
  · exact Or.inl h1
  · exact Or.inr ⟨by simpa using h1, by simpa using fun h => hbad ⟨h1, Or.inl h⟩, by simpa using fun h => hbad ⟨h1, Or.inr h⟩⟩
/-- a slice of n steps -/
def Sts (w : World) (sv : Value) (n : Nat) (F : Nat → Nat → Int) : Prop := ∃ (a : Option Addr) (cap : Nat), sv = .slice a n cap ∧ n ≤ 281474976710656 ∧ (0 < n → ∃ g off, a = some ⟨g, off, none⟩ ∧ ∀ j, j < n → ∀ t, t < 7 → w.cell? ⟨g, off + j * 7 + t, none⟩ = some (.int .i64 (F j t)))
theorem Sts.later {w w1 : World} {sv : Value} {n : Nat} {F : Nat → Nat → Int} (h : Sts w sv n F) (hb : Below w.heap.size w w1) : Sts w1 sv n F := by
  obtain ⟨a, cap, hv, hn, hc⟩ := h
  refine ⟨a, cap, hv, hn, fun h0 => ?_⟩
  obtain ⟨g, off, ha, hp⟩ := hc h0
  exact ⟨g, off, ha, fun j hj t ht => cell_later hb (hp j hj t ht)⟩
set_option maxRecDepth 100000 in
set_option maxHeartbeats 3200000 in
theorem check_any (sv : Value) (n : Nat) (F : Nat → Nat → Int) (w : World) (h : Sts w sv n F) : Calls Try.prog 87 #[sv] w (RetPost (.int .i64 (checkE F n)) w) := by
  have H := Lib.hid h
  obtain ⟨a, cap, rfl, hn, hc⟩ := h
  have C := Lib.hid hc
  clear hc
  by_cases hbig : 200 < n
  · have e : checkE F n = 7 := by unfold checkE; rw [if_pos hbig]
    rw [e]
    clear e
    go_enter Try.func87, Try.ntmps87
    go_wp2_with fail
    go_ret
    exact ⟨rfl, Below.refl _ _⟩
  have CE : Hid (checkE F n = chk F n) := Lib.hid (by unfold checkE; rw [if_neg hbig])
  rw [CE.out]
  have hn2 : n ≤ 200 := by omega
  go_enter Try.func87, Try.ntmps87
  go_wp2_with fail
  go_loopw [3, 12] (fun b i wr => ∃ k : Nat, k ≤ n ∧ i = .int .i64 k ∧ b = .int .i64 (beh F k) ∧ chk F k = 0 ∧ Below w.heap.size w wr) (fun _ i _ => n - (intOf i).toNat)
  case atStart => exact ⟨0, by omega, rfl, rfl, rfl, Below.refl _ _⟩
  case round =>
    obtain ⟨k, hk, rfl, rfl, hchk, hb⟩ := hrel
    have HC := Lib.hid hchk
    have B := Lib.hid hb
    clear hchk hb
    by_cases hlt : k < n
    · obtain ⟨g, off, rfl, hp⟩ := C.out (by omega)
      have c : ∀ t, t < 7 → wr.cell? ⟨g, off + k * 7 + t, none⟩ = some (.int .i64 (F k t)) := fun t ht => cell_later B.out (hp k hlt t ht)
      have c0 := c 0 (by omega)
      have c1 := c 1 (by omega)
      have c2 := c 2 (by omega)
      have c3 := c 3 (by omega)
      have c4 := c 4 (by omega)
      have c5 := c 5 (by omega)
      have c6 := c 6 (by omega)
      rw [Nat.add_zero] at c0
      have RA := Lib.hid (fun W => right_any (F k) (beh F k) W)
      have CS : Hid (chk F (k + 1) = rightE (F k) (beh F k)) := Lib.hid (by show (if chk F k = 0 then rightE (F k) (beh F k) else chk F k) = _; rw [if_pos HC.out])
      have CT : Hid (rightE (F k) (beh F k) ≠ 0 → chk F n = rightE (F k) (beh F k)) := Lib.hid (fun hne => by rw [← CS.out]; exact chk_stays (by rw [CS.out]; exact hne) (by omega))
      have BE : Hid (beh F (k + 1) = F k 0) := Lib.hid rfl
      obtain ⟨e, he⟩ : ∃ e, e = rightE (F k) (beh F k) := ⟨_, rfl⟩
      rw [← he] at RA CS CT
      obtain ⟨bb, hbb⟩ : ∃ b, b = beh F k := ⟨_, rfl⟩
      rw [← hbb] at RA ⊢
      obtain ⟨f0, hf0⟩ : ∃ x, x = F k 0 := ⟨_, rfl⟩
      obtain ⟨f1, hf1⟩ : ∃ x, x = F k 1 := ⟨_, rfl⟩
      obtain ⟨f2, hf2⟩ : ∃ x, x = F k 2 := ⟨_, rfl⟩
      obtain ⟨f3, hf3⟩ : ∃ x, x = F k 3 := ⟨_, rfl⟩
      obtain ⟨f4, hf4⟩ : ∃ x, x = F k 4 := ⟨_, rfl⟩
      obtain ⟨f5, hf5⟩ : ∃ x, x = F k 5 := ⟨_, rfl⟩
      obtain ⟨f6, hf6⟩ : ∃ x, x = F k 6 := ⟨_, rfl⟩
      rw [← hf0] at c0 BE
      rw [← hf1] at c1
      rw [← hf2] at c2
      rw [← hf3] at c3
      rw [← hf4] at c4
      rw [← hf5] at c5
      rw [← hf6] at c6
      rw [← hf0, ← hf1, ← hf2, ← hf3, ← hf4, ← hf5, ← hf6] at RA
      clear he hbb hf0 hf1 hf2 hf3 hf4 hf5 hf6 hp c
      have hk0 : (0 : Int) ≤ (k : Int) := by omega
      have hk3 : (k : Int) < (n : Int) := by omega
      go_wp2_with fail
      obtain ⟨w1, hw1⟩ : ∃ w1, w1 = wr.alloc (.cells #[.int .i64 f0, .int .i64 f1, .int .i64 f2, .int .i64 f3, .int .i64 f4, .int .i64 f5, .int .i64 f6] 99) := ⟨_, rfl⟩
      rw [← hw1]
      obtain ⟨G, hG⟩ : ∃ G, G = wr.heap.size := ⟨_, rfl⟩
      rw [← hG]
      have X1 : BxAt w1 G [.int .i64 f0, .int .i64 f1, .int .i64 f2, .int .i64 f3, .int .i64 f4, .int .i64 f5, .int .i64 f6] := by rw [hw1, hG]; exact BxAt.new wr _ _
      have B1 : Hid (Below w.heap.size w w1) := Lib.hid (by rw [hw1]; exact bthen B.out (below_alloc _ _))
      clear hw1 hG c0 c1 c2 c3 c4 c5 c6
      refine (RA.out w1).mono ?_
      rintro e2 w2 ⟨rfl, hb2⟩
      have d0 := (X1.later hb2).2.2 0 _ rfl
      have B2 := Lib.hid (bthen B1.out hb2)
      clear hb2 X1
      by_cases h0 : e = 0
      · subst h0
        go_wp2_with fail
        refine ⟨⟨k + 1, by omega, by go_num, by rw [BE.out], CS.out, B2.out⟩, by (first | (simp [intOf]; done) | (simp [intOf]; omega) | (simp only [intOf]; omega))⟩
      · have hh := Lib.hid (CT.out h0)
        go_wp2_with fail
        go_ret
        exact ⟨by rw [hh.out]; rfl, B2.out⟩
    · obtain rfl : k = n := by omega
      go_wp2_with fail
      go_ret
      exact ⟨by rw [HC.out]; rfl, B.out⟩
/-- a line's points, read: at least one, in a block from A on, below block B -/
def PLn (w : World) (A B : Nat) (v : Value) (l : List Pt) : Prop := ∃ g off cap, v = .slice (some ⟨g, off, none⟩) l.length cap ∧ A ≤ g ∧ g < B ∧ PtAt w g off l.length (fun k => (l.getD k (0, 0)).1) (fun k => (l.getD k (0, 0)).2)
theorem PLn.grown {w w1 : World} {A B : Nat} {v u : Value} {l : List Pt} (h : PLn w A B v l) (hg : w.grownBy w1 u.ownBlock) (hn : NoInt w u) : PLn w1 A B v l := by
  obtain ⟨g, off, cap, hv, hA, hlt, hp⟩ := h
  refine ⟨g, off, cap, hv, hA, hlt, fun j hj => ?_⟩
  have hne : some g ≠ u.ownBlock := fun e => hn g e.symm _ _ (hp j hj).1 _ _ rfl
  exact ⟨hg.cell (hp j hj).1 hne, hg.cell (hp j hj).2 hne⟩
/-- blocks that are neither the tracer's nor its rows' -/
def Fre (w : World) (T g : Nat) : Prop := g < w.heap.size ∧ g ≠ T ∧ (∀ v, w.cell? ⟨T, 0, none⟩ = some v → v.ownBlock ≠ some g) ∧ ∀ v, w.cell? ⟨T, 1, none⟩ = some v → v.ownBlock ≠ some g
/-- such blocks stay as they are -/
structure Frm (w w' : World) (T : Nat) : Prop where
  os : w'.os = w.os
  tape : w'.tape = w.tape
  output : w'.output = w.output
  size : w.heap.size ≤ w'.heap.size
  block : ∀ g, Fre w T g → w'.heap[g]? = w.heap[g]? ∧ Fre w' T g
theorem Frm.refl (w : World) (T : Nat) : Frm w w T := ⟨rfl, rfl, rfl, Nat.le_refl _, fun _ h => ⟨rfl, h⟩⟩
theorem Frm.trans {w w1 w2 : World} {T : Nat} (h : Frm w w1 T) (k : Frm w1 w2 T) : Frm w w2 T :=
  ⟨k.os.trans h.os, k.tape.trans h.tape, k.output.trans h.output, Nat.le_trans h.size k.size, fun g hg => ⟨(k.block g (h.block g hg).2).1.trans (h.block g hg).1, (k.block g (h.block g hg).2).2⟩⟩
theorem Frm.cell {w w' : World} {T g k : Nat} {u : Value} (h : Frm w w' T) (hg : Fre w T g) (hu : w.cell? ⟨g, k, none⟩ = some u) : w'.cell? ⟨g, k, none⟩ = some u := (World.cell?_of_block (h.block g hg).1).trans hu
/-- an append to one of the tracer's rows -/
theorem Frm.grown {w w' : World} {T k : Nat} {v : Value} (hT : T < w.heap.size) (hv : w.cell? ⟨T, k, none⟩ = some v) (hk : k = 0 ∨ k = 1) (hne : v.ownBlock ≠ some T) (hg : w.grownBy w' v.ownBlock) : Frm w w' T := by
  have hbT : w'.heap[T]? = w.heap[T]? := hg.block T hT (fun e => hne e.symm)
  refine ⟨hg.os, hg.tape, hg.output, hg.size, fun g hf => ⟨hg.block g hf.1 (fun e => ?_), Nat.lt_of_lt_of_le hf.1 hg.size, hf.2.1, fun u hu => hf.2.2.1 u ?_, fun u hu => hf.2.2.2 u ?_⟩⟩
  · rcases hk with rfl | rfl
    · exact hf.2.2.1 v hv e.symm
    · exact hf.2.2.2 v hv e.symm
  · rw [World.cell?_of_block (w := w) (a := ⟨T, 0, none⟩) hbT] at hu; exact hu
  · rw [World.cell?_of_block (w := w) (a := ⟨T, 1, none⟩) hbT] at hu; exact hu
theorem own_ne {w : World} {Bn T e s : Nat} {v : Value} {n : Nat} {xs : List Value} (h : w.ownsRow Bn e s v n xs) (hT : T < Bn) : v.ownBlock ≠ some T := fun hh => by
  have := (h.lt T hh).1; omega
theorem BxAt.grown {w w1 : World} {g : Nat} {cs : List Value} {v : Value} (h : BxAt w g cs) (hg : w.grownBy w1 v.ownBlock) (hne : v.ownBlock ≠ some g) : BxAt w1 g cs := by
  have hb : w1.heap[g]? = w.heap[g]? := hg.block g h.1 (fun e => hne e.symm)
  exact ⟨Nat.lt_of_lt_of_le h.1 hg.size, fun k => (World.frozen?_of_block (w := w) (a := ⟨g, k, none⟩) hb).trans (h.2.1 k), fun k u hu => (World.cell?_of_block (w := w) (a := ⟨g, k, none⟩) hb).trans (h.2.2 k u hu)⟩
abbrev Ln := List Pt × Bool
def rowS (l : List (Pt × Pt)) : List Value := l.flatMap fun s => [.int .i64 s.1.1, .int .i64 s.1.2, .int .i64 s.2.1, .int .i64 s.2.2]
/-- a slice of ways -/
def Sgs (w : World) (v : Value) (S : List (Pt × Pt)) : Prop := ∃ (a : Option Addr) (cap : Nat), v = .slice a S.length cap ∧ (0 < S.length → ∃ g, a = some ⟨g, 0, none⟩ ∧ ∀ j u, (rowS S)[j]? = some u → w.cell? ⟨g, j, none⟩ = some u)
theorem Sgs.later {w w1 : World} {v : Value} {S : List (Pt × Pt)} (h : Sgs w v S) (hb : Below w.heap.size w w1) : Sgs w1 v S := by
  obtain ⟨a, cap, hv, hc⟩ := h
  refine ⟨a, cap, hv, fun h0 => ?_⟩
  obtain ⟨g, ha, hp⟩ := hc h0
  exact ⟨g, ha, fun j u hu => cell_later hb (hp j u hu)⟩
/-- what the steps cost, and where one is -/
def costK (s : Nat → Int) (p : Pt) : Nat := if s 0 = 2 then 1 else if s 0 = 5 then 1 else if s 0 = 3 then crvN 3 p s else if s 0 = 4 then crvN 4 p s else 0
def atK (s : Nat → Int) (p : Pt) : Pt := if s 0 = 1 then (s 1, s 2) else if s 0 = 2 then (s 1, s 2) else if s 0 = 3 then (s 3, s 4) else if s 0 = 4 then (s 5, s 6) else p
def atT (F : Nat → Nat → Int) : Nat → Pt
  | 0 => (0, 0)
  | i + 1 => atK (F i) (atT F i)
def costT (F : Nat → Nat → Int) : Nat → Nat
  | 0 => 0
  | i + 1 => costT F i + costK (F i) (atT F i)
theorem costK_le (s : Nat → Int) (p : Pt) : costK s p ≤ 32 := by
  have h3 := crvN_le 3 p s
  have h4 := crvN_le 4 p s
  unfold costK
  repeat' split
  all_goals omega
theorem costT_le (F : Nat → Nat → Int) (i : Nat) : costT F i ≤ 32 * i := by
  induction i with
  | zero => exact Nat.le_refl _
  | succ i ih =>
    have := costK_le (F i) (atT F i)
    unfold costT
    omega
/-- a step that may be: its points fit -/
theorem right_fits {s : Nat → Int} {b : Int} (h : rightE s b = 0) : 0 ≤ usesI (s 0) ∧ fitsTo (sX s) (sY s) (usesN (s 0)) = true := by
  unfold rightE at h
  split at h
  · cases h
  · rename_i h1
    split at h
    · cases h
    · split at h
      · rename_i h3
        exact ⟨by omega, h3⟩
      · cases h
theorem uses_of (op : Int) : op = 1 ∧ usesN op = 1 ∨ op = 2 ∧ usesN op = 1 ∨ op = 3 ∧ usesN op = 2 ∨ op = 4 ∧ usesN op = 3 ∨ op = 5 ∧ usesN op = 0 ∨ usesI op < 0 := by
  unfold usesN usesI
  by_cases h1 : op = 1
  · subst h1; simp
  by_cases h2 : op = 2
  · subst h2; simp
  by_cases h3 : op = 3
  · subst h3; simp
  by_cases h4 : op = 4
  · subst h4; simp
  by_cases h5 : op = 5
  · subst h5; simp
  simp [h1, h2, h3, h4, h5]
def sumD : List Ln → Nat
  | [] => 0
  | x :: r => x.1.length + sumD r
/-- the balance of lengths -/
def Few (t : TS) (n : Nat) : Prop := sumD t.done + t.now.length ≤ n + t.done.length + (if t.now = [] then 0 else 1)
theorem Few.add {t : TS} {n : Nat} {p : Pt} (h : Few t n) : Few (t.add p) (n + 1) := by
  have h1 := add_len t p
  have h2 : (t.add p).now ≠ [] := by
    show (if _ then _ else _ : List Pt) ≠ []
    split
    · simp
    · rename_i hne
      exact fun h => hne (Or.inl h)
  unfold Few at *
  rw [h1.2, if_neg h2]
  split at h <;> omega
theorem Few.mono {t : TS} {n m : Nat} (h : Few t n) (hm : n ≤ m) : Few t m := by unfold Few at *; omega
def one (p q : Pt) : Int := if q = p then 1 else 0
theorem bx_b (w : World) (cs : List Value) (t : TypeId) (o : Obj) : BxAt ((w.alloc o).alloc (.cells cs.toArray t)) (w.heap.size + 1) cs := by
  have := BxAt.new (w.alloc o) cs t
  simpa using this
def CountPost (F : Nat → Nat → Int) (n : Nat) (w : World) (e : Ending) (w' : World) : Prop :=
  Below w.heap.size w w' ∧ ((checkE F n ≠ 0 ∧ e = .returned (.tuple #[.int .i64 0, .int .i64 (checkE F n)])) ∨ (checkE F n = 0 ∧ e = .returned (.tuple #[.int .i64 (costT F n), .int .i64 0])))
set_option maxRecDepth 100000 in
set_option maxHeartbeats 6400000 in
theorem count_any (sv : Value) (n : Nat) (F : Nat → Nat → Int) (w : World) (h : Sts w sv n F) : Calls Try.prog 76 #[sv] w (CountPost F n w) := by
  have CK := Lib.hid (check_any sv n F w h)
  obtain ⟨a, cap, rfl, hn, hc⟩ := h
  have C := Lib.hid hc
  clear hc
  obtain ⟨ce, hce⟩ : ∃ ce, ce = checkE F n := ⟨_, rfl⟩
  rw [← hce] at CK
  have CE := Lib.hid hce
  have CB : Hid (ce = 0 → n ≤ 200 ∧ chk F n = 0) := Lib.hid (fun h0 => by
    rw [hce] at h0
    unfold checkE at h0
    split at h0
    · cases h0
    · exact ⟨by omega, h0⟩)
  clear hce
  go_enter Try.func76, Try.ntmps76
  go_wp2_with fail
  refine CK.out.mono ?_
  rintro e w1 ⟨rfl, hb1⟩
  have B1 := Lib.hid hb1
  clear hb1
  by_cases h0 : ce = 0
  · obtain ⟨hn2, hchk⟩ := CB.out h0
    have CH := Lib.hid hchk
    have CE0 := Lib.hid h0
    subst h0
    clear hchk
    go_wp2_with fail
    obtain ⟨w2, hw2⟩ : ∃ w2, w2 = w1.alloc (.cells #[.int .i64 0, .int .i64 0] 35) := ⟨_, rfl⟩
    rw [← hw2]
    obtain ⟨G, hG⟩ : ∃ G, G = w1.heap.size := ⟨_, rfl⟩
    rw [← hG]
    have G2 : Hid (BxAt w2 G [.int .i64 0, .int .i64 0]) := Lib.hid (by rw [hw2, hG]; exact BxAt.new w1 _ _)
    have B2 : Hid (Below w.heap.size w w2) := Lib.hid (by rw [hw2]; exact bthen B1.out (below_alloc _ _))
    have ZG : Hid (w.heap.size ≤ G) := Lib.hid (by rw [hG]; exact B1.out.size)
    clear hw2 hG
    go_loopw [5, 17] (fun c i wr => ∃ k : Nat, k ≤ n ∧ i = .int .i64 k ∧ c = .int .i64 (costT F k) ∧ BxAt wr G [.int .i64 (atT F k).1, .int .i64 (atT F k).2] ∧ Below w.heap.size w wr) (fun _ i _ => n - (intOf i).toNat)
    case atStart => exact ⟨0, by omega, rfl, rfl, G2.out, B2.out⟩
    case round =>
      obtain ⟨k, hk, rfl, rfl, hg, hb⟩ := hrel
      have GG := Lib.hid hg
      have B := Lib.hid hb
      clear hg hb
      have CL := costT_le F k
      by_cases hlt : k < n
      · obtain ⟨g, off, rfl, hp⟩ := C.out (by omega)
        have UO := uses_of (F k 0)
        have RF := (right_fits (chk_at CH.out hlt)).1
        have c : ∀ t, t < 7 → wr.cell? ⟨g, off + k * 7 + t, none⟩ = some (.int .i64 (F k t)) := fun t ht => cell_later B.out (hp k hlt t ht)
        have c0 := c 0 (by omega)
        have c1 := c 1 (by omega)
        have c2 := c 2 (by omega)
        have c3 := c 3 (by omega)
        have c4 := c 4 (by omega)
        have c5 := c 5 (by omega)
        have c6 := c 6 (by omega)
        rw [Nat.add_zero] at c0
        obtain ⟨ax, hax⟩ : ∃ x, x = (atT F k).1 := ⟨_, rfl⟩
        obtain ⟨ay, hay⟩ : ∃ x, x = (atT F k).2 := ⟨_, rfl⟩
        rw [← hax, ← hay] at GG
        obtain ⟨f0, hf0⟩ : ∃ x, x = F k 0 := ⟨_, rfl⟩
        rw [← hf0] at c0
        obtain ⟨f1, hf1⟩ : ∃ x, x = F k 1 := ⟨_, rfl⟩
        rw [← hf1] at c1
        obtain ⟨f2, hf2⟩ : ∃ x, x = F k 2 := ⟨_, rfl⟩
        rw [← hf2] at c2
        obtain ⟨f3, hf3⟩ : ∃ x, x = F k 3 := ⟨_, rfl⟩
        rw [← hf3] at c3
        obtain ⟨f4, hf4⟩ : ∃ x, x = F k 4 := ⟨_, rfl⟩
        rw [← hf4] at c4
        obtain ⟨f5, hf5⟩ : ∃ x, x = F k 5 := ⟨_, rfl⟩
        rw [← hf5] at c5
        obtain ⟨f6, hf6⟩ : ∃ x, x = F k 6 := ⟨_, rfl⟩
        rw [← hf6] at c6
        rw [← hf0] at UO RF
        clear hp c
        have hk0 : (0 : Int) ≤ (k : Int) := by omega
        have hk3 : (k : Int) < (n : Int) := by omega
        have g0 := GG.out.2.2 0 _ rfl
        have g1 := GG.out.2.2 1 _ rfl
        have gf := GG.out.2.1
        have zG := GG.out.1
        have gne := Nat.ne_of_lt zG
        have gne2 := Nat.ne_of_gt zG
        have CLT : Hid (costT F k ≤ 6400) := Lib.hid (by omega)
        rcases UO with ⟨ho, _⟩ | ⟨ho, _⟩ | ⟨ho, _⟩ | ⟨ho, _⟩ | ⟨ho, _⟩ | ho
        · obtain rfl : f0 = 1 := ho
          have CT : Hid (costT F (k + 1) = costT F k + 0) := Lib.hid (by show costT F k + costK (F k) (atT F k) = _; unfold costK; rw [← hf0]; rfl)
          have AT : Hid (atT F (k + 1) = (f1, f2)) := Lib.hid (by show atK (F k) (atT F k) = _; unfold atK; rw [← hf0, ← hf1, ← hf2]; rfl)
          obtain ⟨cc, hcc⟩ : ∃ cc, cc = costT F k := ⟨_, rfl⟩
          rw [← hcc] at CT CLT ⊢
          have cc1 : cc ≤ 6400 := CLT.out
          clear hcc CL
          clear hf0 hf1 hf2 hf3 hf4 hf5 hf6 hax hay RF
          go_wp2_with fail
          obtain ⟨A, hA⟩ : ∃ A, A = wr.heap.size := ⟨_, rfl⟩
          rw [← hA]
          refine (uses_any 1 _).mono ?_
          rintro eu wu ⟨rfl, hwu⟩
          rw [show usesI 1 = 1 from by decide]
          have BU : Hid (Below w.heap.size w wu) := Lib.hid (by rw [← hwu]; exact B.out.trans ((below_alloc _ _).mono B.out.size))
          have GU : Hid (BxAt wu G [.int .i64 ax, .int .i64 ay]) := Lib.hid (by rw [← hwu]; exact GG.out.later (below_alloc _ _))
          have XU : Hid (BxAt wu A [.int .i64 1, .int .i64 f1, .int .i64 f2, .int .i64 f3, .int .i64 f4, .int .i64 f5, .int .i64 f6]) := Lib.hid (by rw [← hwu]; exact (by rw [hA]; exact BxAt.new wr _ _))
          clear hwu hA g0 g1 gf gne gne2
          have g0 := GU.out.2.2 0 _ rfl
          have g1 := GU.out.2.2 1 _ rfl
          have gf := GU.out.2.1
          have ax1 := XU.out.2.2 1 _ rfl
          have ax2 := XU.out.2.2 2 _ rfl
          go_wp2_with fail
          have e1 : Hid (BxAt ((wu.setCell ⟨G, 0, none⟩ (.int .i64 f1)).setCell ⟨G, 1, none⟩ (.int .i64 f2)) G [.int .i64 f1, .int .i64 f2]) := Lib.hid ((GU.out.put 0 (.int .i64 f1) (by simp)).put 1 (.int .i64 f2) (by simp))
          have e2 : Hid (Below w.heap.size w ((wu.setCell ⟨G, 0, none⟩ (.int .i64 f1)).setCell ⟨G, 1, none⟩ (.int .i64 f2))) := Lib.hid ((BU.out.setCell (p := ⟨G, 0, none⟩) ZG.out _).setCell (p := ⟨G, 1, none⟩) ZG.out _)
          refine ⟨⟨k + 1, by omega, by go_num, by rw [CT.out]; go_num, by rw [AT.out]; exact e1.out, e2.out⟩, by (first | (simp [intOf]; done) | (simp [intOf]; omega) | (simp only [intOf]; omega))⟩
        · obtain rfl : f0 = 2 := ho
          have CT : Hid (costT F (k + 1) = costT F k + 1) := Lib.hid (by show costT F k + costK (F k) (atT F k) = _; unfold costK; rw [← hf0]; rfl)
          have AT : Hid (atT F (k + 1) = (f1, f2)) := Lib.hid (by show atK (F k) (atT F k) = _; unfold atK; rw [← hf0, ← hf1, ← hf2]; rfl)
          obtain ⟨cc, hcc⟩ : ∃ cc, cc = costT F k := ⟨_, rfl⟩
          rw [← hcc] at CT CLT ⊢
          have cc1 : cc ≤ 6400 := CLT.out
          clear hcc CL
          clear hf0 hf1 hf2 hf3 hf4 hf5 hf6 hax hay RF
          go_wp2_with fail
          obtain ⟨A, hA⟩ : ∃ A, A = wr.heap.size := ⟨_, rfl⟩
          rw [← hA]
          refine (uses_any 2 _).mono ?_
          rintro eu wu ⟨rfl, hwu⟩
          rw [show usesI 2 = 1 from by decide]
          have BU : Hid (Below w.heap.size w wu) := Lib.hid (by rw [← hwu]; exact B.out.trans ((below_alloc _ _).mono B.out.size))
          have GU : Hid (BxAt wu G [.int .i64 ax, .int .i64 ay]) := Lib.hid (by rw [← hwu]; exact GG.out.later (below_alloc _ _))
          have XU : Hid (BxAt wu A [.int .i64 2, .int .i64 f1, .int .i64 f2, .int .i64 f3, .int .i64 f4, .int .i64 f5, .int .i64 f6]) := Lib.hid (by rw [← hwu]; exact (by rw [hA]; exact BxAt.new wr _ _))
          clear hwu hA g0 g1 gf gne gne2
          have g0 := GU.out.2.2 0 _ rfl
          have g1 := GU.out.2.2 1 _ rfl
          have gf := GU.out.2.1
          have ax1 := XU.out.2.2 1 _ rfl
          have ax2 := XU.out.2.2 2 _ rfl
          go_wp2_with fail
          have e1 : Hid (BxAt ((wu.setCell ⟨G, 0, none⟩ (.int .i64 f1)).setCell ⟨G, 1, none⟩ (.int .i64 f2)) G [.int .i64 f1, .int .i64 f2]) := Lib.hid ((GU.out.put 0 (.int .i64 f1) (by simp)).put 1 (.int .i64 f2) (by simp))
          have e2 : Hid (Below w.heap.size w ((wu.setCell ⟨G, 0, none⟩ (.int .i64 f1)).setCell ⟨G, 1, none⟩ (.int .i64 f2))) := Lib.hid ((BU.out.setCell (p := ⟨G, 0, none⟩) ZG.out _).setCell (p := ⟨G, 1, none⟩) ZG.out _)
          refine ⟨⟨k + 1, by omega, by go_num, by rw [CT.out]; go_num, by rw [AT.out]; exact e1.out, e2.out⟩, by (first | (simp [intOf]; done) | (simp [intOf]; omega) | (simp only [intOf]; omega))⟩
        · obtain rfl : f0 = 3 := ho
          have CT : Hid (costT F (k + 1) = costT F k + crvN 3 (atT F k) (F k)) := Lib.hid (by show costT F k + costK (F k) (atT F k) = _; unfold costK; rw [← hf0]; rfl)
          have AT : Hid (atT F (k + 1) = (f3, f4)) := Lib.hid (by show atK (F k) (atT F k) = _; unfold atK; rw [← hf0, ← hf3, ← hf4]; rfl)
          have PC : Hid (∀ W A cap, BxAt W A [.int .i64 ax, .int .i64 ay, .int .i64 f1, .int .i64 f2, .int .i64 f3, .int .i64 f4] → Calls Try.prog 88 #[.slice (some ⟨A, 0, none⟩) 3 cap] W (RetPost (.int .i64 (crvN 3 (atT F k) (F k))) W)) := Lib.hid (fun W A cap h => by
            refine pieces_any A 0 3 cap (quadX (crv (atT F k) (F k))) (quadY (crv (atT F k) (F k))) W (by omega) (fun j hj => ?_)
            have h4 : j = 0 ∨ j = 1 ∨ j = 2 := by omega
            rw [hax, hay, hf1, hf2, hf3, hf4] at h
            rcases h4 with rfl | rfl | rfl
            · exact ⟨h.2.2 0 _ rfl, h.2.2 1 _ rfl⟩
            · exact ⟨h.2.2 2 _ rfl, h.2.2 3 _ rfl⟩
            · exact ⟨h.2.2 4 _ rfl, h.2.2 5 _ rfl⟩)
          have NB := Lib.hid (crvN_le 3 (atT F k) (F k))
          obtain ⟨N, hN⟩ : ∃ N, N = crvN 3 (atT F k) (F k) := ⟨_, rfl⟩
          rw [← hN] at CT PC NB
          have hN32 : N ≤ 32 := NB.out
          clear hN
          obtain ⟨cc, hcc⟩ : ∃ cc, cc = costT F k := ⟨_, rfl⟩
          rw [← hcc] at CT CLT ⊢
          have cc1 : cc ≤ 6400 := CLT.out
          clear hcc CL
          clear hf0 hf1 hf2 hf3 hf4 hf5 hf6 hax hay RF
          go_wp2_with fail
          obtain ⟨A, hA⟩ : ∃ A, A = wr.heap.size := ⟨_, rfl⟩
          refine (PC.out _ _ _ (bx_b wr _ _ _)).mono ?_
          rintro ep w3 ⟨rfl, hb3⟩
          have b3 : Below wr.heap.size wr w3 := bthen (bel2 _ _ _) hb3
          have G3 := Lib.hid (GG.out.later b3)
          have B3 := Lib.hid (B.out.trans (b3.mono B.out.size))
          have X3 : Hid (BxAt w3 A [.int .i64 3, .int .i64 f1, .int .i64 f2, .int .i64 f3, .int .i64 f4, .int .i64 f5, .int .i64 f6]) := Lib.hid (by rw [hA]; exact ((BxAt.new wr [.int .i64 3, .int .i64 f1, .int .i64 f2, .int .i64 f3, .int .i64 f4, .int .i64 f5, .int .i64 f6] 99).later (below_alloc _ _)).later hb3)
          clear b3 hb3 g0 g1 gf gne gne2 c0 c1 c2 c3 c4 c5 c6
          have a0 := X3.out.2.2 0 _ rfl
          rw [← hA]
          clear hA
          go_wp2_with fail
          refine (uses_any 3 _).mono ?_
          rintro eu wu ⟨rfl, hwu⟩
          rw [show usesI 3 = 2 from by decide]
          have BU : Hid (Below w.heap.size w wu) := Lib.hid (by rw [← hwu]; exact B3.out)
          have GU : Hid (BxAt wu G [.int .i64 ax, .int .i64 ay]) := Lib.hid (by rw [← hwu]; exact G3.out)
          have XU : Hid (BxAt wu A [.int .i64 3, .int .i64 f1, .int .i64 f2, .int .i64 f3, .int .i64 f4, .int .i64 f5, .int .i64 f6]) := Lib.hid (by rw [← hwu]; exact X3.out)
          clear hwu a0
          have g0 := GU.out.2.2 0 _ rfl
          have g1 := GU.out.2.2 1 _ rfl
          have gf := GU.out.2.1
          have ax1 := XU.out.2.2 3 _ rfl
          have ax2 := XU.out.2.2 4 _ rfl
          go_wp2_with fail
          have e1 : Hid (BxAt ((wu.setCell ⟨G, 0, none⟩ (.int .i64 f3)).setCell ⟨G, 1, none⟩ (.int .i64 f4)) G [.int .i64 f3, .int .i64 f4]) := Lib.hid ((GU.out.put 0 (.int .i64 f3) (by simp)).put 1 (.int .i64 f4) (by simp))
          have e2 : Hid (Below w.heap.size w ((wu.setCell ⟨G, 0, none⟩ (.int .i64 f3)).setCell ⟨G, 1, none⟩ (.int .i64 f4))) := Lib.hid ((BU.out.setCell (p := ⟨G, 0, none⟩) ZG.out _).setCell (p := ⟨G, 1, none⟩) ZG.out _)
          refine ⟨⟨k + 1, by omega, by go_num, by rw [CT.out]; go_num, by rw [AT.out]; exact e1.out, e2.out⟩, by (first | (simp [intOf]; done) | (simp [intOf]; omega) | (simp only [intOf]; omega))⟩
        · obtain rfl : f0 = 4 := ho
          have CT : Hid (costT F (k + 1) = costT F k + crvN 4 (atT F k) (F k)) := Lib.hid (by show costT F k + costK (F k) (atT F k) = _; unfold costK; rw [← hf0]; rfl)
          have AT : Hid (atT F (k + 1) = (f5, f6)) := Lib.hid (by show atK (F k) (atT F k) = _; unfold atK; rw [← hf0, ← hf5, ← hf6]; rfl)
          have PC : Hid (∀ W A cap, BxAt W A [.int .i64 ax, .int .i64 ay, .int .i64 f1, .int .i64 f2, .int .i64 f3, .int .i64 f4, .int .i64 f5, .int .i64 f6] → Calls Try.prog 88 #[.slice (some ⟨A, 0, none⟩) 4 cap] W (RetPost (.int .i64 (crvN 4 (atT F k) (F k))) W)) := Lib.hid (fun W A cap h => by
            refine pieces_any A 0 4 cap (quadX (crv (atT F k) (F k))) (quadY (crv (atT F k) (F k))) W (by omega) (fun j hj => ?_)
            have h4 : j = 0 ∨ j = 1 ∨ j = 2 ∨ j = 3 := by omega
            rw [hax, hay, hf1, hf2, hf3, hf4, hf5, hf6] at h
            rcases h4 with rfl | rfl | rfl | rfl
            · exact ⟨h.2.2 0 _ rfl, h.2.2 1 _ rfl⟩
            · exact ⟨h.2.2 2 _ rfl, h.2.2 3 _ rfl⟩
            · exact ⟨h.2.2 4 _ rfl, h.2.2 5 _ rfl⟩
            · exact ⟨h.2.2 6 _ rfl, h.2.2 7 _ rfl⟩)
          have NB := Lib.hid (crvN_le 4 (atT F k) (F k))
          obtain ⟨N, hN⟩ : ∃ N, N = crvN 4 (atT F k) (F k) := ⟨_, rfl⟩
          rw [← hN] at CT PC NB
          have hN32 : N ≤ 32 := NB.out
          clear hN
          obtain ⟨cc, hcc⟩ : ∃ cc, cc = costT F k := ⟨_, rfl⟩
          rw [← hcc] at CT CLT ⊢
          have cc1 : cc ≤ 6400 := CLT.out
          clear hcc CL
          clear hf0 hf1 hf2 hf3 hf4 hf5 hf6 hax hay RF
          go_wp2_with fail
          obtain ⟨A, hA⟩ : ∃ A, A = wr.heap.size := ⟨_, rfl⟩
          refine (PC.out _ _ _ (bx_b wr _ _ _)).mono ?_
          rintro ep w3 ⟨rfl, hb3⟩
          have b3 : Below wr.heap.size wr w3 := bthen (bel2 _ _ _) hb3
          have G3 := Lib.hid (GG.out.later b3)
          have B3 := Lib.hid (B.out.trans (b3.mono B.out.size))
          have X3 : Hid (BxAt w3 A [.int .i64 4, .int .i64 f1, .int .i64 f2, .int .i64 f3, .int .i64 f4, .int .i64 f5, .int .i64 f6]) := Lib.hid (by rw [hA]; exact ((BxAt.new wr [.int .i64 4, .int .i64 f1, .int .i64 f2, .int .i64 f3, .int .i64 f4, .int .i64 f5, .int .i64 f6] 99).later (below_alloc _ _)).later hb3)
          clear b3 hb3 g0 g1 gf gne gne2 c0 c1 c2 c3 c4 c5 c6
          have a0 := X3.out.2.2 0 _ rfl
          rw [← hA]
          clear hA
          go_wp2_with fail
          refine (uses_any 4 _).mono ?_
          rintro eu wu ⟨rfl, hwu⟩
          rw [show usesI 4 = 3 from by decide]
          have BU : Hid (Below w.heap.size w wu) := Lib.hid (by rw [← hwu]; exact B3.out)
          have GU : Hid (BxAt wu G [.int .i64 ax, .int .i64 ay]) := Lib.hid (by rw [← hwu]; exact G3.out)
          have XU : Hid (BxAt wu A [.int .i64 4, .int .i64 f1, .int .i64 f2, .int .i64 f3, .int .i64 f4, .int .i64 f5, .int .i64 f6]) := Lib.hid (by rw [← hwu]; exact X3.out)
          clear hwu a0
          have g0 := GU.out.2.2 0 _ rfl
          have g1 := GU.out.2.2 1 _ rfl
          have gf := GU.out.2.1
          have ax1 := XU.out.2.2 5 _ rfl
          have ax2 := XU.out.2.2 6 _ rfl
          go_wp2_with fail
          have e1 : Hid (BxAt ((wu.setCell ⟨G, 0, none⟩ (.int .i64 f5)).setCell ⟨G, 1, none⟩ (.int .i64 f6)) G [.int .i64 f5, .int .i64 f6]) := Lib.hid ((GU.out.put 0 (.int .i64 f5) (by simp)).put 1 (.int .i64 f6) (by simp))
          have e2 : Hid (Below w.heap.size w ((wu.setCell ⟨G, 0, none⟩ (.int .i64 f5)).setCell ⟨G, 1, none⟩ (.int .i64 f6))) := Lib.hid ((BU.out.setCell (p := ⟨G, 0, none⟩) ZG.out _).setCell (p := ⟨G, 1, none⟩) ZG.out _)
          refine ⟨⟨k + 1, by omega, by go_num, by rw [CT.out]; go_num, by rw [AT.out]; exact e1.out, e2.out⟩, by (first | (simp [intOf]; done) | (simp [intOf]; omega) | (simp only [intOf]; omega))⟩
        · obtain rfl : f0 = 5 := ho
          have CT : Hid (costT F (k + 1) = costT F k + 1) := Lib.hid (by show costT F k + costK (F k) (atT F k) = _; unfold costK; rw [← hf0]; rfl)
          have AT : Hid (atT F (k + 1) = (ax, ay)) := Lib.hid (by show atK (F k) (atT F k) = _; unfold atK; rw [← hf0, hax, hay]; rfl)
          obtain ⟨cc, hcc⟩ : ∃ cc, cc = costT F k := ⟨_, rfl⟩
          rw [← hcc] at CT CLT ⊢
          have cc1 : cc ≤ 6400 := CLT.out
          clear hcc CL
          clear hf0 hf1 hf2 hf3 hf4 hf5 hf6 hax hay RF
          go_wp2_with fail
          obtain ⟨A, hA⟩ : ∃ A, A = wr.heap.size := ⟨_, rfl⟩
          rw [← hA]
          refine (uses_any 5 _).mono ?_
          rintro eu wu ⟨rfl, hwu⟩
          rw [show usesI 5 = 0 from by decide]
          have BU : Hid (Below w.heap.size w wu) := Lib.hid (by rw [← hwu]; exact B.out.trans ((below_alloc _ _).mono B.out.size))
          have GU : Hid (BxAt wu G [.int .i64 ax, .int .i64 ay]) := Lib.hid (by rw [← hwu]; exact GG.out.later (below_alloc _ _))
          have XU : Hid (BxAt wu A [.int .i64 5, .int .i64 f1, .int .i64 f2, .int .i64 f3, .int .i64 f4, .int .i64 f5, .int .i64 f6]) := Lib.hid (by rw [← hwu]; exact (by rw [hA]; exact BxAt.new wr _ _))
          clear hwu hA g0 g1 gf gne gne2
          have g0 := GU.out.2.2 0 _ rfl
          have g1 := GU.out.2.2 1 _ rfl
          have gf := GU.out.2.1
          go_wp2_with fail
          refine ⟨⟨k + 1, by omega, by go_num, by rw [CT.out]; go_num, by rw [AT.out]; exact GU.out, BU.out⟩, by (first | (simp [intOf]; done) | (simp [intOf]; omega) | (simp only [intOf]; omega))⟩
        · omega
      · obtain rfl : k = n := by omega
        go_wp2_with fail
        refine bodyPost_ret (v := .tuple #[.int .i64 (costT F k), .int .i64 0]) ?_ rfl ⟨B.out, Or.inr ⟨CE.out.symm, rfl⟩⟩
        simp [results, Try.results76, go_sem]
  · go_wp2_with fail
    refine bodyPost_ret (v := .tuple #[.int .i64 0, .int .i64 ce]) ?_ rfl ⟨B1.out, Or.inl ⟨by rw [← CE.out]; exact h0, by rw [← CE.out]⟩⟩
    simp [results, Try.results76, go_sem]
theorem ruses_any (op : Int) (w : World) : Calls Try.prog 46 #[.int .i64 op] w (RetPost (.int .i64 (usesI op)) w) := by
  by_cases h4 : op = 4
  · subst h4
    go_enter Try.func46, Try.ntmps46
    go_wp2
    go_ret
    exact ⟨rfl, below_alloc _ _⟩
  by_cases h3 : op = 3
  · subst h3
    go_enter Try.func46, Try.ntmps46
    go_wp2
    go_ret
    exact ⟨rfl, below_alloc _ _⟩
  by_cases h2 : op = 2
  · subst h2
    go_enter Try.func46, Try.ntmps46
    go_wp2
    go_ret
    exact ⟨rfl, below_alloc _ _⟩
  by_cases h1 : op = 1
  · subst h1
    go_enter Try.func46, Try.ntmps46
    go_wp2
    go_ret
    exact ⟨rfl, below_alloc _ _⟩
  by_cases h5 : op = 5
  · subst h5
    go_enter Try.func46, Try.ntmps46
    go_wp2
    go_ret
    exact ⟨rfl, below_alloc _ _⟩
  have e : usesI op = -1 := by unfold usesI; rw [if_neg h1, if_neg h2, if_neg h3, if_neg h4, if_neg h5]
  rw [e]
  clear e
  by_cases hlt : op < 1
  · clear h1 h2 h3 h4 h5
    go_enter Try.func46, Try.ntmps46
    go_wp2
    go_ret
    exact ⟨rfl, Below.refl _ _⟩
  · have hgt : op > 5 := by omega
    clear h1 h2 h3 h4 h5
    go_enter Try.func46, Try.ntmps46
    go_wp2
    go_ret
    exact ⟨rfl, Below.refl _ _⟩
/-- what the reference says of a step -/
theorem chk_next {F : Nat → Nat → Int} {k n : Nat} (h : chk F k = 0) (hk : k < n) : chk F (k + 1) = rightE (F k) (beh F k) ∧ (rightE (F k) (beh F k) ≠ 0 → chk F n = rightE (F k) (beh F k)) := by
  have e : chk F (k + 1) = rightE (F k) (beh F k) := by
    show (if chk F k = 0 then rightE (F k) (beh F k) else chk F k) = _
    rw [if_pos h]
  exact ⟨e, fun hne => by rw [← e]; exact chk_stays (by rw [e]; exact hne) (by omega)⟩
theorem beh_ne {F : Nat → Nat → Int} {k : Nat} (h : chk F (k + 1) = 0) : F k 0 ≠ 0 := by
  have h2 := (right_fits (chk_at h (Nat.lt_succ_self k))).1
  intro e
  rw [e] at h2
  exact absurd h2 (by decide)
set_option maxRecDepth 100000 in
set_option maxHeartbeats 6400000 in
theorem rcheck_any (sv : Value) (n : Nat) (F : Nat → Nat → Int) (w : World) (h : Sts w sv n F) : Calls Try.prog 39 #[sv] w (RetPost (.int .i64 (checkE F n)) w) := by
  obtain ⟨a, cap, rfl, hn, hc⟩ := h
  have C := Lib.hid hc
  clear hc
  by_cases hbig : 200 < n
  · have e : checkE F n = 7 := by unfold checkE; rw [if_pos hbig]
    rw [e]
    clear e
    go_enter Try.func39, Try.ntmps39
    go_wp2_with fail
    go_ret
    exact ⟨rfl, Below.refl _ _⟩
  have CE : Hid (checkE F n = chk F n) := Lib.hid (by unfold checkE; rw [if_neg hbig])
  rw [CE.out]
  have hn2 : n ≤ 200 := by omega
  go_enter Try.func39, Try.ntmps39
  go_wp2_with fail
  go_loopw [3] (fun i wr => ∃ k : Nat, k ≤ n ∧ i = .int .i64 k ∧ chk F k = 0 ∧ Below w.heap.size w wr) (fun i _ => n - (intOf i).toNat)
  case atStart => exact ⟨0, by omega, rfl, rfl, Below.refl _ _⟩
  case round =>
    obtain ⟨k, hk, rfl, hchk, hb⟩ := hrel
    have HC := Lib.hid hchk
    have B := Lib.hid hb
    clear hchk hb
    by_cases hlt : k < n
    · obtain ⟨g, off, rfl, hp⟩ := C.out (by omega)
      have c0 := cell_later B.out (hp k hlt 0 (by omega))
      rw [Nat.add_zero] at c0
      have UI := Lib.hid (fun W => ruses_any (F k 0) W)
      obtain ⟨hn1, hn3⟩ := chk_next HC.out hlt
      have PT : Hid (PtAt w g (off + k * 7 + 1) 3 (sX (F k)) (sY (F k))) := Lib.hid (by
        intro j hj
        have h1 := hp k hlt (1 + 2 * j) (by omega)
        have h2 := hp k hlt (2 + 2 * j) (by omega)
        rw [show off + k * 7 + (1 + 2 * j) = off + k * 7 + 1 + j * 2 by omega] at h1
        rw [show off + k * 7 + (2 + 2 * j) = off + k * 7 + 1 + j * 2 + 1 by omega] at h2
        exact ⟨h1, h2⟩)
      have PREV : Hid (∀ q, k = q + 1 → beh F k = F q 0 ∧ F q 0 ≠ 0 ∧ ∀ W, Below w.heap.size w W → W.cell? ⟨g, off + q * 7, none⟩ = some (.int .i64 (F q 0))) := Lib.hid (by
        intro q hq
        refine ⟨by rw [hq]; rfl, beh_ne (by rw [← hq]; exact HC.out), fun W hW => ?_⟩
        have := cell_later hW (hp q (by omega) 0 (by omega))
        rwa [Nat.add_zero] at this)
      have RE : Hid (rightE (F k) (beh F k) = if usesI (F k 0) < 0 then 2 else if F k 0 ≠ 1 ∧ (beh F k = 0 ∨ beh F k = 5) then 12 else if fitsTo (sX (F k)) (sY (F k)) (usesN (F k 0)) = true then 0 else 4) := Lib.hid rfl
      have B0 : Hid (k = 0 → beh F k = 0) := Lib.hid (fun h => by rw [h]; rfl)
      have UL := usesI_le (F k 0)
      have UN : Hid (usesN (F k 0) = (usesI (F k 0)).toNat) := Lib.hid rfl
      obtain ⟨re, hre⟩ : ∃ r, r = rightE (F k) (beh F k) := ⟨_, rfl⟩
      rw [← hre] at hn1 hn3 RE
      have NE := Lib.hid (And.intro hn1 hn3)
      obtain ⟨bb, hbb⟩ : ∃ b, b = beh F k := ⟨_, rfl⟩
      rw [← hbb] at RE PREV B0
      obtain ⟨X, hX⟩ : ∃ X, X = sX (F k) := ⟨_, rfl⟩
      obtain ⟨Y, hY⟩ : ∃ Y, Y = sY (F k) := ⟨_, rfl⟩
      rw [← hX, ← hY] at RE PT
      obtain ⟨f0, hf0⟩ : ∃ x, x = F k 0 := ⟨_, rfl⟩
      rw [← hf0] at c0 UI UL UN RE
      obtain ⟨u, hu⟩ : ∃ x, x = usesI f0 := ⟨_, rfl⟩
      rw [← hu] at UI UL UN RE
      obtain ⟨un, hun⟩ : ∃ x, x = usesN f0 := ⟨_, rfl⟩
      rw [← hun] at UN RE
      clear hre hbb hX hY hf0 hu hun hp hn1 hn3
      have hk0 : (0 : Int) ≤ (k : Int) := by omega
      have hk3 : (k : Int) < (n : Int) := by omega
      go_wp2_with fail
      refine (UI.out _).mono ?_
      rintro e w2 ⟨rfl, hb2⟩
      have B2 := Lib.hid (bthen B.out hb2)
      have c0 := cell_later hb2 c0
      clear hb2
      by_cases hneg : u < 0
      · have hr : re = 2 := by rw [RE.out, if_pos hneg]
        subst hr
        have HH := Lib.hid (NE.out.2 (by decide))
        go_wp2_with fail
        go_ret
        exact ⟨by rw [HH.out]; rfl, B2.out⟩
      · have hrest : re = if f0 ≠ 1 ∧ (bb = 0 ∨ bb = 5) then 12 else if fitsTo X Y un = true then 0 else 4 := by rw [RE.out, if_neg hneg]
        have RE2 := Lib.hid hrest
        clear RE
        clear hrest
        obtain ⟨m, rfl⟩ : ∃ m : Nat, u = (m : Int) := ⟨u.toNat, by omega⟩
        have em : un = m := by rw [UN.out]; simp
        subst em
        have hm3 : un ≤ 3 := by omega
        clear UL hneg
        have hdn : decide ((un : Int) < 0) = false := decide_eq_false (by omega)
        -- the order
        have hcase : ((f0 != 1) = true ∧ ((k : Int) == 0) = true ∧ re = 12) ∨ ((f0 != 1) = true ∧ ((k : Int) == 0) = false ∧ (∃ (q : Nat) (pv : Int), ((k : Int) - 1 = (q : Int) ∧ (q : Int) < (n : Int) ∧ q < n) ∧ w2.cell? ⟨g, off + q * 7, none⟩ = some (.int .i64 pv) ∧ (((pv == 5) = true ∧ re = 12) ∨ ((pv == 5) = false ∧ re = if fitsTo X Y un = true then 0 else 4)))) ∨ ((f0 != 1) = false ∧ re = if fitsTo X Y un = true then 0 else 4) := by
          by_cases h1 : f0 = 1
          · exact Or.inr (Or.inr ⟨by simp [h1], by rw [RE2.out, if_neg (by simp [h1])]⟩)
          · have h1' : (f0 != 1) = true := by simpa using h1
            by_cases h0 : k = 0
            · exact Or.inl ⟨h1', by simp [h0], by rw [RE2.out, if_pos ⟨h1, Or.inl (B0.out h0)⟩]⟩
            · obtain ⟨q, hq⟩ : ∃ q, k = q + 1 := ⟨k - 1, by omega⟩
              obtain ⟨p1, p2, p3⟩ := PREV.out q hq
              refine Or.inr (Or.inl ⟨h1', beq_eq_false_iff_ne.2 (by omega), q, F q 0, ⟨by omega, by omega, by omega⟩, p3 w2 B2.out, ?_⟩)
              by_cases h5 : F q 0 = 5
              · exact Or.inl ⟨by simp [h5], by rw [RE2.out, if_pos ⟨h1, Or.inr (by rw [p1, h5])⟩]⟩
              · refine Or.inr ⟨by simpa using h5, ?_⟩
                rw [RE2.out, if_neg]
                rintro ⟨_, h | h⟩
                · rw [p1] at h; exact p2 h
                · rw [p1] at h; exact h5 h
        clear RE2 B0 PREV
        have tail : Hid (re = (if fitsTo X Y un = true then 0 else 4) → True) := Lib.hid (fun _ => trivial)
        clear tail
        rcases hcase with ⟨e1, e2, rfl⟩ | ⟨e1, e2, q, pv, ⟨hq1, hq2, hq3⟩, cq, ⟨e3, rfl⟩ | ⟨e3, hre⟩⟩ | ⟨e1, hre⟩
        · have HH := Lib.hid (NE.out.2 (by decide))
          go_wp2_with fail
          go_ret
          exact ⟨by rw [HH.out]; rfl, B2.out⟩
        · have HH := Lib.hid (NE.out.2 (by decide))
          go_wp2_with fail
          go_ret
          exact ⟨by rw [HH.out]; rfl, B2.out⟩
        all_goals
          have RR := Lib.hid hre
          clear hre
          go_wp2_with fail
          try simp only [hdn]
          go_loopw [5] (fun i wz => ∃ j : Nat, j ≤ un ∧ i = .int .i64 j ∧ fitsTo X Y j = true ∧ Below w.heap.size w wz) (fun i _ => un - (intOf i).toNat)
          case atStart => exact ⟨0, by omega, rfl, rfl, B2.out⟩
          case round =>
            obtain ⟨j, hj, rfl, hf, hbz⟩ := hrel
            have HF := Lib.hid hf
            have BZ := Lib.hid hbz
            clear hf hbz
            by_cases hlj : j < un
            · obtain ⟨d0, d1⟩ := PT.out.later BZ.out j (by omega)
              obtain ⟨x, hx⟩ : ∃ x, x = X j := ⟨_, rfl⟩
              obtain ⟨y, hy⟩ : ∃ y, y = Y j := ⟨_, rfl⟩
              rw [← hx] at d0
              rw [← hy] at d1
              have HX := Lib.hid (And.intro hx hy)
              clear hx hy
              have hj0 : (0 : Int) ≤ (j : Int) := by omega
              have hj3 : (j : Int) < (un : Int) := by omega
              have hj4 : j < 3 := by omega
              have hj5 : (j : Int) < 3 := by omega
              go_wp2_with fail
              refine (rfits_any x y _).mono ?_
              rintro e w3 ⟨rfl, hw3⟩
              have B3 : Hid (Below w.heap.size w w3) := Lib.hid (by rw [hw3]; exact bthen BZ.out (below_alloc _ _))
              clear hw3
              cases hfit : fits x y
              · have e : re = 4 := by
                  rw [RR.out, if_neg]
                  rw [fitsTo_lt hlj (by rw [← HX.out.1, ← HX.out.2]; exact hfit)]
                  simp
                subst e
                have HH := Lib.hid (NE.out.2 (by decide))
                go_wp2_with fail
                go_ret
                exact ⟨by rw [HH.out]; rfl, B3.out⟩
              · have HK : Hid (fitsTo X Y (j + 1) = true) := Lib.hid (by unfold fitsTo; rw [HF.out, ← HX.out.1, ← HX.out.2, hfit]; rfl)
                clear hfit
                go_wp2_with fail
                refine ⟨⟨j + 1, by omega, by go_num, HK.out, B3.out⟩, by (first | (simp [intOf]; done) | (simp [intOf]; omega) | (simp only [intOf]; omega))⟩
            · have ek : j = un := by omega
              subst ek
              have e : re = 0 := by rw [RR.out, if_pos HF.out]
              subst e
              have HH := Lib.hid NE.out.1
              go_wp2_with fail
              refine ⟨⟨_ + 1, ?_, ?_, HH.out, BZ.out⟩, ?_⟩
              · omega
              · go_num
              · (first | (simp [intOf]; done) | (simp [intOf]; omega) | (simp only [intOf]; omega))
    · obtain rfl : k = n := by omega
      go_wp2_with fail
      go_ret
      exact ⟨by rw [HC.out]; rfl, B.out⟩
/-- a glyph -/
structure Gl where
  code : Int
  adv : Int
  n : Nat
  F : Nat → Nat → Int
def mayG (g : Gl) : Bool := decide ((33 ≤ g.code ∧ g.code ≤ 126) ∧ (0 ≤ g.adv ∧ g.adv ≤ 8388607) ∧ checkE g.F g.n = 0)
def findG (G : Nat → Gl) (c : Int) : Nat → Option Nat
  | 0 => none
  | k + 1 => match findG G c k with
    | some j => some j
    | none => if (G k).code = c then some k else none
theorem findG_lt {G : Nat → Gl} {c : Int} {n j : Nat} (h : findG G c n = some j) : j < n := by
  induction n with
  | zero => cases h
  | succ n ih =>
    unfold findG at h
    split at h
    · rename_i j2 h2
      obtain rfl := Option.some.inj h
      have := ih h2
      omega
    · split at h
      · obtain rfl := Option.some.inj h
        omega
      · cases h
theorem findG_stays {G : Nat → Gl} {c : Int} {n m j : Nat} (h : findG G c n = some j) (hm : n ≤ m) : findG G c m = some j := by
  induction m with
  | zero => obtain rfl : n = 0 := by omega
            exact h
  | succ m ih =>
    by_cases e : n = m + 1
    · rw [← e]; exact h
    · unfold findG
      rw [ih (by omega)]
set_option maxRecDepth 100000 in
set_option maxHeartbeats 3200000 in
theorem may_any (g : Gl) (p : Option Addr) (c : Nat) (w : World) (h : Sts w (.slice p g.n c) g.n g.F) : Calls Try.prog 63 #[.agg #[.int .i64 g.code, .int .i64 g.adv, .slice p g.n c]] w (RetPost (.bool (mayG g)) w) := by
  have ME : Hid (mayG g = decide ((33 ≤ g.code ∧ g.code ≤ 126) ∧ (0 ≤ g.adv ∧ g.adv ≤ 8388607) ∧ checkE g.F g.n = 0)) := Lib.hid rfl
  obtain ⟨code, adv, n, F⟩ := g
  dsimp only at *
  obtain ⟨w1, hw1⟩ : ∃ w1, w1 = w.alloc (.cells #[.int .i64 code, .int .i64 adv, .slice p n c] 66) := ⟨_, rfl⟩
  obtain ⟨X, hX⟩ : ∃ X, X = w.heap.size := ⟨_, rfl⟩
  have X1 : Hid (BxAt w1 X [.int .i64 code, .int .i64 adv, .slice p n c]) := Lib.hid (by rw [hw1, hX]; exact BxAt.new w _ _)
  have b1 : Below w.heap.size w w1 := by rw [hw1]; exact below_alloc _ _
  have B1 := Lib.hid b1
  have CA := Lib.hid (count_any (.slice p n c) n F w1 (h.later b1))
  have WA := Lib.hid (And.intro hw1 hX)
  have x0 := X1.out.2.2 0 _ rfl
  have x1 := X1.out.2.2 1 _ rfl
  have x2 := X1.out.2.2 2 _ rfl
  obtain ⟨mg, hmg⟩ : ∃ m, m = mayG ⟨code, adv, n, F⟩ := ⟨_, rfl⟩
  rw [← hmg] at ME ⊢
  clear hw1 hX b1 h hmg
  by_cases h1 : code < 33
  · have e : mg = false := by rw [ME.out]; exact decide_eq_false fun h => by omega
    subst e
    have d1 : decide (code < 33) = true := decide_eq_true h1
    go_enter Try.func63, Try.ntmps63
    go_wp2_with fail
    rw [← WA.out.1]
    go_ret
    exact ⟨rfl, B1.out⟩
  have d1 : decide (code < 33) = false := decide_eq_false h1
  by_cases h2 : 126 < code
  · have e : mg = false := by rw [ME.out]; exact decide_eq_false fun h => by omega
    subst e
    have d2 : decide (126 < code) = true := decide_eq_true h2
    go_enter Try.func63, Try.ntmps63
    go_wp2_with fail
    rw [← WA.out.1]
    go_ret
    exact ⟨rfl, B1.out⟩
  have d2 : decide (126 < code) = false := decide_eq_false h2
  by_cases h3 : adv < 0
  · have e : mg = false := by rw [ME.out]; exact decide_eq_false fun h => by omega
    subst e
    have d3 : decide (adv < 0) = true := decide_eq_true h3
    go_enter Try.func63, Try.ntmps63
    go_wp2_with fail
    rw [← WA.out.1]
    go_ret
    exact ⟨rfl, B1.out⟩
  have d3 : decide (adv < 0) = false := decide_eq_false h3
  by_cases h4 : 8388607 < adv
  · have e : mg = false := by rw [ME.out]; exact decide_eq_false fun h => by omega
    subst e
    have d4 : decide (8388607 < adv) = true := decide_eq_true h4
    go_enter Try.func63, Try.ntmps63
    go_wp2_with fail
    rw [← WA.out.1]
    go_ret
    exact ⟨rfl, B1.out⟩
  have d4 : decide (8388607 < adv) = false := decide_eq_false h4
  have ME2 : Hid (mg = decide (checkE F n = 0)) := Lib.hid (by
    rw [ME.out]
    by_cases h5 : checkE F n = 0
    · rw [decide_eq_true h5]
      exact decide_eq_true ⟨by omega, by omega, h5⟩
    · rw [decide_eq_false h5]
      exact decide_eq_false fun h => h5 h.2.2)
  clear ME
  go_enter Try.func63, Try.ntmps63
  go_wp2_with fail
  rw [← WA.out.1]
  refine CA.out.mono ?_
  rintro e w2 ⟨hb2, h2⟩
  have B2 := Lib.hid (bthen B1.out hb2)
  clear hb2
  obtain ⟨ce, hce⟩ : ∃ ce, ce = checkE F n := ⟨_, rfl⟩
  rw [← hce] at ME2 h2
  clear hce
  rcases h2 with ⟨h0, rfl⟩ | ⟨h0, rfl⟩
  · have e : mg = false := by rw [ME2.out]; exact decide_eq_false h0
    subst e
    have d5 : (ce == 0) = false := by simpa using h0
    go_wp2_with fail
    go_ret
    exact ⟨by simp, B2.out⟩
  · have e : mg = true := by rw [ME2.out]; exact decide_eq_true h0
    subst e
    go_wp2_with fail
    go_ret
    exact ⟨rfl, B2.out⟩
/-- a slice of glyphs -/
def FontV (w : World) (v : Value) (fn : Nat) (G : Nat → Gl) : Prop := ∃ (a : Option Addr) (cap : Nat), v = .slice a fn cap ∧ fn ≤ 281474976710656 ∧ (0 < fn → ∃ g off, a = some ⟨g, off, none⟩ ∧ ∀ j, j < fn → ∃ p c, w.cell? ⟨g, off + j * 3, none⟩ = some (.int .i64 (G j).code) ∧ w.cell? ⟨g, off + j * 3 + 1, none⟩ = some (.int .i64 (G j).adv) ∧ w.cell? ⟨g, off + j * 3 + 2, none⟩ = some (.slice p (G j).n c) ∧ Sts w (.slice p (G j).n c) (G j).n (G j).F)
theorem FontV.later {w w1 : World} {v : Value} {fn : Nat} {G : Nat → Gl} (h : FontV w v fn G) (hb : Below w.heap.size w w1) : FontV w1 v fn G := by
  obtain ⟨a, cap, hv, hn, hc⟩ := h
  refine ⟨a, cap, hv, hn, fun h0 => ?_⟩
  obtain ⟨g, off, ha, hp⟩ := hc h0
  refine ⟨g, off, ha, fun j hj => ?_⟩
  obtain ⟨p, c, h1, h2, h3, h4⟩ := hp j hj
  exact ⟨p, c, cell_later hb h1, cell_later hb h2, cell_later hb h3, h4.later hb⟩
theorem bx3 {w : World} {g : Nat} {u0 u1 u2 : Value} (h : BxAt w g [u0, u1, u2]) (x y z : Value) : BxAt (((w.setCell ⟨g, 0, none⟩ x).setCell ⟨g, 1, none⟩ y).setCell ⟨g, 2, none⟩ z) g [x, y, z] :=
  ((h.put 0 x (by simp)).put 1 y (by simp)).put 2 z (by simp)
theorem below3 {B : Nat} {w0 w : World} {g : Nat} (h : Below B w0 w) (hg : B ≤ g) (x y z : Value) : Below B w0 (((w.setCell ⟨g, 0, none⟩ x).setCell ⟨g, 1, none⟩ y).setCell ⟨g, 2, none⟩ z) :=
  ((h.setCell (p := ⟨g, 0, none⟩) hg _).setCell (p := ⟨g, 1, none⟩) hg _).setCell (p := ⟨g, 2, none⟩) hg _
theorem getD_map {α : Type} (n : Nat) (f : Nat → α) (d : α) {k : Nat} (h : k < n) : ((List.range n).map f).getD k d = f k := by
  simp [List.getD_eq_getElem?_getD, h]
end Go.Proofs.Ytkhdielfnphheaa
