/- How a scene's definitions, and a style, read. -/
import Derived.ProofKit
import Derived.OpenShut
import Derived.ChangeOld
import Derived.Deep.Slices
import Derived.Deep.Fields
import Derived.ChangeSame
import Derived.SizedLaws
import Derived.Test.YtkhdielfnphheaaRows
import Derived.Test.YtkhdielfnphheaaNew0
namespace Go.Proofs.Ytkhdielfnphheaa
open Go.ChangeShapes Go.WideShapes Go.ChangeAt Go.RowKit Go.Deep

section
variable {H : Type} {enc : TypeId × Value → H} {P : Program} {w : World} {base : Nat} {spare : Nat → Bool} {held : Bool}
theorem spot_none {a : Addr} {v : Value} (h : w.cell? a = some v) : a.spot = none := by
  obtain ⟨b, o, sp⟩ := a
  cases sp with
  | none => rfl
  | some q => exact absurd h (by simp only [World.cell?]; split <;> simp)
theorem add_none {a : Addr} {n : Nat} {v : Value} (h : w.cell? (a.add n) = some v) : w.cell? ⟨a.block, a.off + n, none⟩ = some v := by
  unfold Addr.add at h
  split at h
  · rename_i h0
    have hs := spot_none h
    obtain ⟨b, o, sp⟩ := a
    simp only at hs
    subst hs h0
    exact h
  · exact h
theorem weights_all {e : TypeId} {l : List (DataW H)} {d : DataW H} (h : d ∈ l) : ∀ n ∈ d.weights P e, n ∈ DataW.weightsAll P e l := by
  induction l with
  | nil => cases h
  | cons y r ih =>
    intro n hn
    simp only [DataW.weightsAll, List.mem_append]
    cases List.mem_cons.1 h with
    | inl e => subst e; exact Or.inl hn
    | inr e => exact Or.inr (ih e n hn)
/-- a slice's elements, each read by he -/
theorem slice_row {α : Type} (q0 : α) {t e s b : Nat} (f : α → Nat → Value) (G : α → Prop) (ht : P.underlying t = some (.slice e)) (hs : P.cellsOf e = s) (hb : P.bytesOf e = b) (hp : 0 < s)
    (he : ∀ {fuel : Nat} {cs : List Value} {x : DataW H × List MemPlace}, (∀ n ∈ x.1.weights P e, n ≤ reachBytes) → DataW.trod enc P w base spare held fuel e cs = some x → ∃ q : α, (∀ t, t < s → cs[t]? = some (f q t)) ∧ G q)
    {fuel : Nat} {v : Value} {x : DataW H × List MemPlace} (hB : ∀ n ∈ x.1.weights P t, n ≤ reachBytes) (h : DataW.trod enc P w base spare held fuel t [v] = some x) :
    ∃ (a : Option Addr) (len cap : Nat) (F : Nat → α), v = .slice a len cap ∧ Row w v len s (fun j => f (F j)) ∧ (∀ j, j < len → G (F j)) ∧ len * b ≤ 140737488355328 := by
  rcases open_slice ht h with ⟨hcs, rfl⟩ | ⟨a', len, cap, m, n, D, Pl, hcs, hb', hl, hm, hmm, hx, hi⟩
  · obtain rfl : v = .slice none 0 0 := by simpa using hcs
    exact ⟨none, 0, 0, fun _ => q0, rfl, Row.nil _ _ _, fun j hj => by omega, by omega⟩
  · obtain rfl : v = .slice (some a') len cap := by simpa using hcs
    have hml : len ≤ m := by rw [hmm]; split <;> omega
    have hbig : len * b ≤ 140737488355328 := by
      have hw := hB ((((List.range len).map D).length + ((List.range (m - len)).map (fun i => D (len + i))).length) * P.bytesOf e) (by
        rw [hx]
        simp only [DataW.weights, ht]
        simp)
      rw [hb] at hw
      simp only [List.length_map, List.length_range, reachBytes] at hw
      have := Nat.mul_le_mul_right b (show len ≤ len + (m - len) by omega)
      omega
    have hDj : ∀ j, j < len → ∀ n ∈ (D j).weights P e, n ≤ reachBytes := fun j hj n hn => hB n (by
      rw [hx]
      simp only [DataW.weights, ht]
      exact List.mem_cons_of_mem _ (List.mem_append_left _ (weights_all (List.mem_map_of_mem (List.mem_range.2 hj)) n hn)))
    have key : ∀ j, ∃ q : α, j < len → (∀ t, t < s → w.cell? (a'.add (j * s + t)) = some (f q t)) ∧ G q := fun j => by
      by_cases hj : j < len
      · obtain ⟨cs', hc, ht'⟩ := hi j (by omega)
        rw [hs] at hc
        obtain ⟨_, hcl, hat⟩ := World.cells?_some hc
        obtain ⟨q, hq, hG⟩ := he (hDj j hj) ht'
        refine ⟨q, fun _ => ⟨fun t ht => ?_, hG⟩⟩
        have h0 := hat t ht
        rw [Go.Deep.add_add] at h0
        rw [h0]
        exact hq t ht
      · exact ⟨q0, fun h => absurd h hj⟩
    refine ⟨some a', len, cap, fun j => (key j).choose, rfl, ⟨some a', cap, rfl, (fun h => by cases h), fun h0 => ?_⟩, fun j hj => ((key j).choose_spec hj).2, hbig⟩
    have hsp : a'.spot = none := by
      have h1 := ((key 0).choose_spec h0).1 0 hp
      rw [show (0 * s + 0) = 0 by omega] at h1
      exact spot_none (show w.cell? (a'.add 0) = _ from h1)
    refine ⟨a'.block, a'.off, by obtain ⟨b, o, sp⟩ := a'; simp at hsp; subst hsp; rfl, fun j t hj ht => ?_⟩
    have h1 := add_none (((key j).choose_spec hj).1 t ht)
    rwa [← Nat.add_assoc] at h1
end
section
variable {H : Type} {enc : TypeId × Value → H} {w : World} {base : Nat} {spare : Nat → Bool} {held : Bool} {fuel : Nat} {cs : List Value} {x : DataW H × List MemPlace}
theorem cells99 : Try.prog.cellsOf 99 = 7 := by kernel_rfl
theorem cells58 : Try.prog.cellsOf 58 = 15 := by kernel_rfl
theorem cells66 : Try.prog.cellsOf 66 = 3 := by kernel_rfl
theorem cells101 : Try.prog.cellsOf 101 = 4 := by kernel_rfl
theorem cells23 : Try.prog.cellsOf 23 = 4 := by kernel_rfl
theorem cells94 : Try.prog.cellsOf 94 = 1 := by kernel_rfl
theorem cells31 : Try.prog.cellsOf 31 = 13 := by kernel_rfl
theorem cells33 : Try.prog.cellsOf 33 = 7 := by kernel_rfl
theorem cells35 : Try.prog.cellsOf 35 = 2 := by kernel_rfl
theorem cells97 : Try.prog.cellsOf 97 = 6 := by kernel_rfl
theorem bytes99 : Try.prog.bytesOf 99 = 56 := by kernel_rfl
theorem bytes58 : Try.prog.bytesOf 58 = 64 := by kernel_rfl
theorem bytes66 : Try.prog.bytesOf 66 = 40 := by kernel_rfl
theorem bytes101 : Try.prog.bytesOf 101 = 48 := by kernel_rfl
theorem bytes23 : Try.prog.bytesOf 23 = 4 := by kernel_rfl
theorem bytes94 : Try.prog.bytesOf 94 = 24 := by kernel_rfl
theorem two {α : Type} {l : List α} (h : l.length = 2) : ∃ a b, l = [a, b] := by match l, h with | [a, b], _ => exact ⟨a, b, rfl⟩
set_option maxRecDepth 100000 in
theorem colour_open (h : DataW.trod enc Try.prog w base spare held fuel 23 cs = some x) : ∃ a b c d : Int, cs = [.int .u8 a, .int .u8 b, .int .u8 c, .int .u8 d] := by
  obtain ⟨xs, n, _, hx, hl, hxs, hall⟩ := DataW.trod_struct Try.underlying23 h
  rw [cells23] at hl
  obtain ⟨c0, c1, c2, c3, rfl⟩ : ∃ c0 c1 c2 c3, cs = [c0, c1, c2, c3] := by
    match cs, hl with
    | [c0, c1, c2, c3], _ => exact ⟨c0, c1, c2, c3, rfl⟩
  have hs : xs.length = 4 := hxs
  obtain ⟨x0, x1, x2, x3, rfl⟩ : ∃ x0 x1 x2 x3, xs = [x0, x1, x2, x3] := by
    match xs, hs with
    | [x0, x1, x2, x3], _ => exact ⟨x0, x1, x2, x3, rfl⟩
  have e0 : DataW.trod enc Try.prog w base spare held n 5 [c0] = some x0 := hall 0 _ rfl
  have e1 : DataW.trod enc Try.prog w base spare held n 5 [c1] = some x1 := hall 1 _ rfl
  have e2 : DataW.trod enc Try.prog w base spare held n 5 [c2] = some x2 := hall 2 _ rfl
  have e3 : DataW.trod enc Try.prog w base spare held n 5 [c3] = some x3 := hall 3 _ rfl
  obtain ⟨a, h0, _⟩ := DataW.trod_int Try.underlying5 e0
  obtain ⟨b, h1, _⟩ := DataW.trod_int Try.underlying5 e1
  obtain ⟨c, h2, _⟩ := DataW.trod_int Try.underlying5 e2
  obtain ⟨d, h3, _⟩ := DataW.trod_int Try.underlying5 e3
  simp at h0 h1 h2 h3
  exact ⟨a, b, c, d, by rw [h0, h1, h2, h3]⟩
set_option maxRecDepth 100000 in
theorem point_open (h : DataW.trod enc Try.prog w base spare held fuel 35 cs = some x) : ∃ a b : Int, cs = [.int .i64 a, .int .i64 b] := by
  obtain ⟨xs, n, _, hx, hl, hxs, hall⟩ := DataW.trod_struct Try.underlying35 h
  rw [cells35] at hl
  obtain ⟨c0, c1, rfl⟩ := two hl
  obtain ⟨x0, x1, rfl⟩ := two (show xs.length = 2 from hxs)
  have e0 : DataW.trod enc Try.prog w base spare held n 3 [c0] = some x0 := hall 0 _ rfl
  have e1 : DataW.trod enc Try.prog w base spare held n 3 [c1] = some x1 := hall 1 _ rfl
  obtain ⟨a, h0, _⟩ := DataW.trod_int Try.underlying3 e0
  obtain ⟨b, h1, _⟩ := DataW.trod_int Try.underlying3 e1
  simp at h0 h1
  exact ⟨a, b, by rw [h0, h1]⟩
set_option maxRecDepth 100000 in
theorem style_open (h : DataW.trod enc Try.prog w base spare held fuel 33 cs = some x) : ∃ (pl : Bool) (k0 k1 k2 k3 r op : Int), cs = [.bool pl, .int .u8 k0, .int .u8 k1, .int .u8 k2, .int .u8 k3, .int .i64 r, .int .i64 op] := by
  obtain ⟨xs, n, _, hx, hl, hxs, hall⟩ := DataW.trod_struct Try.underlying33 h
  rw [cells33] at hl
  obtain ⟨c0, c1, c2, c3, c4, c5, c6, rfl⟩ : ∃ c0 c1 c2 c3 c4 c5 c6, cs = [c0, c1, c2, c3, c4, c5, c6] := by
    match cs, hl with
    | [c0, c1, c2, c3, c4, c5, c6], _ => exact ⟨c0, c1, c2, c3, c4, c5, c6, rfl⟩
  have hs : xs.length = 4 := hxs
  obtain ⟨x0, x1, x2, x3, rfl⟩ : ∃ x0 x1 x2 x3, xs = [x0, x1, x2, x3] := by
    match xs, hs with
    | [x0, x1, x2, x3], _ => exact ⟨x0, x1, x2, x3, rfl⟩
  have e0 : DataW.trod enc Try.prog w base spare held n 4 [c0] = some x0 := hall 0 _ rfl
  have e1 : DataW.trod enc Try.prog w base spare held n 23 [c1, c2, c3, c4] = some x1 := hall 1 _ rfl
  have e2 : DataW.trod enc Try.prog w base spare held n 3 [c5] = some x2 := hall 2 _ rfl
  have e3 : DataW.trod enc Try.prog w base spare held n 3 [c6] = some x3 := hall 3 _ rfl
  obtain ⟨a, h0, _⟩ := DataW.trod_bool Try.underlying4 e0
  obtain ⟨k0, k1, k2, k3, h1⟩ := colour_open e1
  obtain ⟨r, h2, _⟩ := DataW.trod_int Try.underlying3 e2
  obtain ⟨op, h3, _⟩ := DataW.trod_int Try.underlying3 e3
  simp at h0 h1 h2 h3
  exact ⟨a, k0, k1, k2, k3, r, op, by rw [h0, h1.1, h1.2.1, h1.2.2.1, h1.2.2.2, h2, h3]⟩
end
end Go.Proofs.Ytkhdielfnphheaa
