/- Laws on slices that a call makes and on slices that are read, over whatever program. -/
import Derived.WalkKit
import Derived.WalkLawsBesides
import Derived.WalkSpells
import Derived.BigQuiet
import Derived.Deep.QuietTactic
import Derived.Deep.RegionHeld3
import Derived.Deep.DeepCutAuto
import Derived.Lib.Hide
import Derived.Outline
namespace Go.Proofs.Ythglgempbdaikaa
open Go.RowKit

theorem news_at (w0 : World) (cs : List Value) (e : TypeId) : ∀ j u, cs[j]? = some u → (w0.alloc (.cells cs.toArray e)).cell? ((⟨w0.heap.size, 0, none⟩ : Addr).add j) = some u := by
  intro j u hu
  have hadd : (⟨w0.heap.size, 0, none⟩ : Addr).add j = ⟨w0.heap.size, j, none⟩ := by unfold Addr.add; split <;> simp_all
  rw [hadd, World.cell?_alloc_new]
  simpa using hu

/-- one element more, on a slice that the call owns -/
theorem wpList_app {P : Program} {ops : Array Oper} {rest : List Oper} {o : Oper} {a : Act} {Q : Exit → Act → World → Prop} {w0 : World} (hgd : o.guard = none) (s x : Operand) (t : TypeId)
    (ho : o.op = .call { callee := .builtin .append, args := #[s, x], argTypes := #[t, t] })
    (base : Nat) (e : TypeId) (i : TypeInfo) (z : Value) (size bytes : Nat) (cs : List Value) (ht : P.underlying t = some (.slice e)) (hi : P.info? e = some i) (hz : i.zero = some z)
    (hsize : i.size = size) (hby : i.bytes = bytes) (hcs : cs.length = size) (hzs : z.cells.size = size) (hsz : 0 < size)
    (v : Value) (n : Nat) (xs : List Value) (hs : a.eval s = v) (hown : w0.ownsRow base e size v n xs)
    (hx : a.eval x = .slice (some ⟨w0.heap.size, 0, none⟩) 1 1) (h1 : ∀ u ∈ cs, u.oneCell' = true)
    (h63 : n + 1 ≤ maxLen) (hbytes : (n + 1) * bytes ≤ 140737488355328) (hbase : base ≤ w0.heap.size)
    (h : ∀ g cap w', w'.ownsRow base e size (.slice (some ⟨g, 0, none⟩) (n + 1) cap) (n + 1) (xs ++ cs) → Below base w0 w' → wpList P ops Q rest (a.put o.dst (.slice (some ⟨g, 0, none⟩) (n + 1) cap)) w') :
    wpList P ops Q (o :: rest) a (w0.alloc (.cells cs.toArray e)) :=
  wpList_append_own (w := w0.alloc (.cells cs.toArray e)) hgd s x t ho base e i z size bytes ht hi hz hsize hby hzs hsz v n xs hs (hown.alloc _) ⟨w0.heap.size, 0, none⟩ 1 1 cs hx (by simp [hcs]) (news_at w0 cs e) h1 h63 hbytes (by simp; omega)
    fun v' w' h2 h3 _ => by
      have hb := ((Below.refl base w0).alloc hbase (.cells cs.toArray e)).grown h3 (by simp; omega) (fun k hk => (hown.lt k hk).1)
      have h2' := h2
      rcases h2.2 with ⟨_, hn⟩ | ⟨g, cap, _, hv, _⟩
      · omega
      · subst hv
        exact h g cap w' h2' hb

/-- a cell that is there is as it was behind a new block -/
theorem frozen_alloc_some (w : World) (a : Addr) (o : Obj) (h : (w.cell? a).isSome = true) : (w.alloc o).frozen? a = w.frozen? a := by
  obtain ⟨u, hu⟩ := Option.isSome_iff_exists.1 h
  exact ((Below.refl _ w).alloc (Nat.le_refl _) o).frozen (World.block_lt_of_cell? w a hu)
/-- behind a call that leaves what lay as it lay: rules for the walk, without sizes -/
theorem bsome {W w1 : World} (hb : Below W.heap.size W w1) : (∀ a, (W.cell? a).isSome = true → w1.cell? a = W.cell? a) ∧ (∀ a, (W.cell? a).isSome = true → w1.frozen? a = W.frozen? a) :=
  ⟨fun a h => by obtain ⟨u, hu⟩ := Option.isSome_iff_exists.1 h; exact hb.cell (World.block_lt_of_cell? W a hu), fun a h => by obtain ⟨u, hu⟩ := Option.isSome_iff_exists.1 h; exact hb.frozen (World.block_lt_of_cell? W a hu)⟩

/-- a slice value of n elements of one cell each, which hold f 0, f 1, .. -/
def RdV (w : World) (v : Value) (n : Nat) (f : Nat → Value) : Prop :=
  ∃ (a : Option Addr) (cap : Nat), v = .slice a n cap ∧ n ≤ 281474976710656 ∧ (0 < n → ∃ g off, a = some ⟨g, off, none⟩ ∧ ∀ j, j < n → w.cell? ⟨g, off + j, none⟩ = some (f j))
theorem RdV.later {w w1 : World} {v : Value} {n : Nat} {f : Nat → Value} (h : RdV w v n f) (hb : Below w.heap.size w w1) : RdV w1 v n f := by
  obtain ⟨a, cap, hv, hl, hc⟩ := h
  refine ⟨a, cap, hv, hl, fun h0 => ?_⟩
  obtain ⟨g, off, ha, hcc⟩ := hc h0
  exact ⟨g, off, ha, fun j hj => cell_later hb (hcc j hj)⟩
theorem RdV.of_owns {w : World} {B : Nat} {e : TypeId} {v : Value} {n : Nat} {xs : List Value} {f : Nat → Value} (h : w.ownsRow B e 1 v n xs) (hl : n ≤ 281474976710656) (hf : ∀ j, j < n → xs[j]? = some (f j)) : RdV w v n f := by
  rcases h.2 with ⟨hv, h0⟩ | ⟨g, cap, cur, hv, hg, hh, _, _, _, htake⟩
  · subst h0
    exact ⟨none, 0, hv, by omega, fun h => by omega⟩
  · refine ⟨some ⟨g, 0, none⟩, cap, hv, hl, fun _ => ⟨g, 0, rfl, fun j hj => ?_⟩⟩
    have hc := h.cells (g := g) (by rw [hv]; rfl) j (f j) (hf j hj)
    have hadd : (⟨g, 0, none⟩ : Addr).add j = ⟨g, 0 + j, none⟩ := by unfold Addr.add; split <;> simp_all
    rwa [hadd] at hc

/-- a slice value that reads as the numbers l of kind k -/
def Rd (k : IntKind) (w : World) (v : Value) (l : List Nat) : Prop := RdV w v l.length (fun j => .int k ((l.getD j 0 : Nat) : Int))
theorem Rd.nil (k : IntKind) (w : World) : Rd k w (.slice none 0 0) [] := ⟨none, 0, rfl, by simp, fun h => by simp at h⟩
theorem Rd.later {k : IntKind} {w w1 : World} {v : Value} {l : List Nat} (h : Rd k w v l) (hb : Below w.heap.size w w1) : Rd k w1 v l := RdV.later h hb
/-- the cells of a row of numbers -/
def ints (k : IntKind) (l : List Nat) : List Value := l.map fun x : Nat => Value.int k (x : Int)
theorem ints_snoc (k : IntKind) (l : List Nat) (x : Nat) : ints k l ++ [.int k (x : Int)] = ints k (l ++ [x]) := by simp [ints]
theorem Rd.of_owns {k : IntKind} {w : World} {B : Nat} {e : TypeId} {v : Value} {n : Nat} {l : List Nat} (h : w.ownsRow B e 1 v n (ints k l)) (hl : l.length ≤ 281474976710656) : Rd k w v l := by
  have hn : l.length = n := by have := h.1; simpa [ints] using this
  subst hn
  exact RdV.of_owns h hl fun j hj => by simp [ints, hj]

end Go.Proofs.Ythglgempbdaikaa
