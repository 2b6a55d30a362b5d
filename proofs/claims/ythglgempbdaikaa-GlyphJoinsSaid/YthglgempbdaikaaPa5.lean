/- Contract of the tracer's finish. -/
import Derived.Test.YthglgempbdaikaaPa4
import Derived.Maps.AppendAt
namespace Go.Proofs.Ythglgempbdaikaa
open Go.RowKit

theorem wpList_nia {P : Program} {ops : Array Oper} {rest : List Oper} {o : Oper} {a : Act} {Q : Exit → Act → World → Prop} {w0 : World} (hgd : o.guard = none) (s x : Operand) (t : TypeId)
    (ho : o.op = .call { callee := .builtin .append, args := #[s, x], argTypes := #[t, t] })
    (base : Nat) (e : TypeId) (i : TypeInfo) (z : Value) (size bytes : Nat) (cs : List Value) (ht : P.underlying t = some (.slice e)) (hi : P.info? e = some i) (hz : i.zero = some z)
    (hsize : i.size = size) (hby : i.bytes = bytes) (hcs : cs.length = size) (hzs : z.cells.size = size) (hsz : 0 < size)
    (v : Value) (n : Nat) (xs : List Value) (hs : a.eval s = v) (hown : w0.ownsRow base e size v n xs)
    (hx : a.eval x = .slice (some ⟨w0.heap.size, 0, none⟩) 1 1) (h1 : ∀ u ∈ cs, u.oneCell' = true)
    (h63 : n + 1 ≤ maxLen) (hbytes : (n + 1) * bytes ≤ 140737488355328) (hbase : base ≤ w0.heap.size) (hni : NoInt w0 v) (hzi : ∀ u ∈ z.cells.toList, noI u) (hnn : ∀ u ∈ cs, noI u)
    (h : ∀ g cap w', w'.ownsRow base e size (.slice (some ⟨g, 0, none⟩) (n + 1) cap) (n + 1) (xs ++ cs) → Below base w0 w' → w0.grownBy w' v.ownBlock → NoInt w' (.slice (some ⟨g, 0, none⟩) (n + 1) cap) → (v.ownBlock = some g ∨ w0.heap.size ≤ g) → wpList P ops Q rest (a.put o.dst (.slice (some ⟨g, 0, none⟩) (n + 1) cap)) w') :
    wpList P ops Q (o :: rest) a (w0.alloc (.cells cs.toArray e)) := by
  have own1 := hown.alloc (.cells cs.toArray e)
  have ni1 : NoInt (w0.alloc (.cells cs.toArray e)) v := by
    intro g hg j u hu
    have hlt := (hown.lt g hg).2
    rw [((Below.refl _ w0).alloc (Nat.le_refl _) (.cells cs.toArray e)).cell (p := ⟨g, j, none⟩) hlt] at hu
    exact hni g hg j u hu
  obtain ⟨v', w', hr, h2, h3, h4⟩ := app_ni (P := P) (w0.alloc (.cells cs.toArray e)) base t o.type e i z size bytes ht hi hz hsize hby hzs hsz v n xs own1 ⟨w0.heap.size, 0, none⟩ 1 cs (by simp [hcs]) (news_at w0 cs e) h1 h63 hbytes (by simp; omega) ni1 hzi hnn
  obtain ⟨v2, w2, hr2, _, _, _, h5⟩ := run_append_own_at (P := P) (w0.alloc (.cells cs.toArray e)) base t o.type e i z size bytes ht hi hz hsize hby hzs hsz v n xs own1 ⟨w0.heap.size, 0, none⟩ 1 1 cs (by simp [hcs]) (news_at w0 cs e) h1 h63 hbytes (by simp; omega)
  rw [hr] at hr2
  injection hr2 with e1 e2
  subst e1 e2
  refine wpList_plain hgd fun K hK => ?_
  unfold Oper.wp execOp
  simp only [ho, resolve, invoke, builtin, Sem.run_bind, Sem.run_pure, Result.andThen_ok, List.map_toArray, List.map_cons, List.map_nil, hs, hx, hr]
  have hb := ((Below.refl base w0).alloc hbase (.cells cs.toArray e)).grown h3 (by simp; omega) (fun k hk => (hown.lt k hk).1)
  have hg : w0.grownBy w' v.ownBlock := ⟨h3.os, h3.tape, h3.output, Nat.le_trans (by simp) h3.size, fun k hk hne => (h3.block k (by simp; omega) hne).trans (Below.heap_alloc w0 _ k hk)⟩
  rcases h2.2 with ⟨_, hn⟩ | ⟨g, cap, _, hv, _⟩
  · omega
  · subst hv
    refine hK _ _ (h g cap w' h2 hb hg h4 ?_)
    rcases h5 with h | h
    · exact Or.inl (h.symm.trans rfl)
    · refine Or.inr ?_
      have : g = (w0.alloc (.cells cs.toArray e)).heap.size := by simpa [Value.ownBlock] using h
      simp at this
      omega
theorem getD_lt {α : Type} (l : List α) (x d : α) {j : Nat} (h : j < l.length) : (l ++ [x]).getD j d = l.getD j d := by
  simp [List.getD_eq_getElem?_getD, List.getElem?_append_left h]
theorem getD_end {α : Type} (l : List α) (x d : α) : (l ++ [x]).getD l.length d = x := by
  simp [List.getD_eq_getElem?_getD]
theorem TrS.fin_no {w w1 : World} {T Bd Bn : Nat} {t : TS} {vd : Value} {p : Option Addr} {n c : Nat} {cl : Bool} (hv : ∃ p n c, vd = .slice p n c) (h1 : T < Bd) (h2 : Bd ≤ Bn) (h3 : Bn ≤ w.heap.size) (hD : DRow w Bd Bn vd t.done)
    (tb : BxAt w1 T [vd, .slice p n c, .int .i64 t.pos.1, .int .i64 t.pos.2]) (hb : Below w.heap.size w w1) (hf : t.fin cl = ⟨t.done, [], t.pos⟩) : TrS (w1.setCell ⟨T, 1, none⟩ (.slice none 0 0)) T Bd Bn (t.fin cl) := by
  rw [hf]
  refine ⟨vd, _, _, _, tb.put 1 (.slice none 0 0) (by simp), hv, h1, h2, ?_, World.ownsRow_nil _ _ _ _, (hD.below (hb.mono h3) (Nat.le_refl _)).setT h1⟩
  have := hb.size; simp; omega
theorem TrS.fin_yes {w1 w5 : World} {T Bd Bn g' cap' : Nat} {t : TS} {vd : Value} {p pl : Option Addr} {n c nl cll : Nat} {cl : Bool} {cs : List Value} {l : List Pt} (h1 : T < Bd) (h2 : Bd ≤ Bn) (h3 : Bn ≤ w1.heap.size)
    (T5 : BxAt w5 T [vd, .slice p n c, .int .i64 t.pos.1, .int .i64 t.pos.2]) (ow1 : cs.length = t.done.length * 2) (ow5 : w5.ownsRow Bd 56 2 (.slice (some ⟨g', 0, none⟩) (t.done.length + 1) cap') (t.done.length + 1) (cs ++ [.slice pl nl cll, .bool cl]))
    (gr5 : w1.grownBy w5 vd.ownBlock) (ni5 : NoInt w5 (.slice (some ⟨g', 0, none⟩) (t.done.length + 1) cap')) (ni1 : NoInt w1 vd)
    (sp : ∀ j, j < t.done.length → ∃ p n c, cs[j * 2]? = some (.slice p n c) ∧ cs[j * 2 + 1]? = some (.bool (t.done.getD j ([], false)).2) ∧ PLn w1 Bd Bn (.slice p n c) (t.done.getD j ([], false)).1)
    (hpl : PLn w1 Bd w1.heap.size (.slice pl nl cll) l) (hf : t.fin cl = ⟨t.done ++ [(l, cl)], [], t.pos⟩) :
    TrS ((w5.setCell ⟨T, 0, none⟩ (.slice (some ⟨g', 0, none⟩) (t.done.length + 1) cap')).setCell ⟨T, 1, none⟩ (.slice none 0 0)) T Bd w5.heap.size (t.fin cl) := by
  have hs5 := gr5.size
  have hlen : (t.done ++ [(l, cl)]).length = t.done.length + 1 := by simp
  have d5 : DRow w5 Bd w5.heap.size (.slice (some ⟨g', 0, none⟩) (t.done.length + 1) cap') (t.done ++ [(l, cl)]) := by
    refine ⟨_, by rw [hlen]; exact ow5, ni5, fun g hg => (ow5.lt g hg).2, fun j hj => ?_⟩
    rw [hlen] at hj
    by_cases e : j = t.done.length
    · subst e
      rw [getD_end]
      refine ⟨pl, nl, cll, ?_, ?_, (hpl.grown gr5 ni1).below (Below.refl _ _) hs5⟩
      · rw [List.getElem?_append_right (by omega), ow1]; simp
      · rw [List.getElem?_append_right (by omega), ow1]; simp
    · obtain ⟨p, n, c, a1, a2, a3⟩ := sp j (by omega)
      rw [getD_lt _ _ _ (by omega)]
      refine ⟨p, n, c, ?_, ?_, (a3.grown gr5 ni1).below (Below.refl _ _) (by omega)⟩
      · rw [List.getElem?_append_left (by omega)]; exact a1
      · rw [List.getElem?_append_left (by omega)]; exact a2
  rw [hf]
  refine ⟨_, _, _, _, (T5.put 0 (.slice (some ⟨g', 0, none⟩) (t.done.length + 1) cap') (by simp)).put 1 (.slice none 0 0) (by simp), ⟨_, _, _, rfl⟩, h1, by omega, by simp, World.ownsRow_nil _ _ _ _, (d5.setT h1).setT h1⟩
end Go.Proofs.Ythglgempbdaikaa
