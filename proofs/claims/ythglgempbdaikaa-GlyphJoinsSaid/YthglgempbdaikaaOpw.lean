/- How a slice of lines reads, and how many points it has. -/
import Derived.Test.YthglgempbdaikaaOpnS
import Derived.Test.YthglgempbdaikaaPb0
namespace Go.Proofs.Ythglgempbdaikaa
open Go.ChangeShapes Go.WideShapes Go.ChangeAt Go.RowKit Go.Deep

theorem one_le {H : Type} (d : DataW H) : 1 ≤ Rows.uptoBulk d := by
  cases d with
  | lit l => cases l <;> simp [Rows.uptoBulk]
  | nil => simp [Rows.uptoBulk]
  | ptr d => simp [Rows.uptoBulk]
  | slice elems spare => simp [Rows.uptoBulk]
  | agg parts => simp [Rows.uptoBulk]
  | iface t d => simp [Rows.uptoBulk]
  | map entries => simp [Rows.uptoBulk]
  | held h => simp [Rows.uptoBulk]
theorem length_le {H : Type} (l : List (DataW H)) : l.length ≤ Rows.uptoBulkAll l := by
  induction l with
  | nil => simp [Rows.uptoBulkAll]
  | cons x r ih => have := one_le x; simp only [Rows.uptoBulkAll, List.length_cons]; omega
theorem part_le {H : Type} {d : DataW H} {l : List (DataW H)} (h : d ∈ l) : Rows.uptoBulk d ≤ Rows.uptoBulkAll l := by
  induction l with
  | nil => cases h
  | cons x r ih =>
    simp only [Rows.uptoBulkAll]
    cases List.mem_cons.1 h with
    | inl e => subst e; omega
    | inr e => have := ih e; omega
theorem bulk_app {H : Type} (l r : List (DataW H)) : Rows.uptoBulkAll (l ++ r) = Rows.uptoBulkAll l + Rows.uptoBulkAll r := by
  induction l with
  | nil => simp [Rows.uptoBulkAll]
  | cons x l ih => simp only [List.cons_append, Rows.uptoBulkAll, ih]; omega
section
variable {H : Type} {enc : TypeId × Value → H} {w : World} {base : Nat} {spare : Nat → Bool} {held : Bool} {fuel : Nat} {cs : List Value} {x : DataW H × List MemPlace}
theorem cells42 : Try.prog.cellsOf 42 = 2 := by kernel_rfl
theorem cells56 : Try.prog.cellsOf 56 = 2 := by kernel_rfl
theorem allI_pt (h : DataW.trod enc Try.prog w base spare held fuel 42 cs = some x) : AllI cs :=
  allI_struct Try.underlying42 (fun i f hf => by
    match i, hf with
    | 0, hf => cases hf; exact ⟨rfl, by kernel_rfl, Try.underlying3⟩
    | 1, hf => cases hf; exact ⟨rfl, by kernel_rfl, Try.underlying3⟩
    | i + 2, hf => simp at hf) (by kernel_rfl) h
theorem getD_map {α : Type} (n : Nat) (f : Nat → α) (d : α) {k : Nat} (h : k < n) : ((List.range n).map f).getD k d = f k := by
  simp [List.getD_eq_getElem?_getD, h]
set_option maxRecDepth 100000 in
/-- a slice of points -/
theorem points_open {v : Value} (hB : Rows.uptoBulk x.1 ≤ 1048576) (h : DataW.trod enc Try.prog w base spare held fuel 54 [v] = some x) : ∃ l : List Pt, LnV w v l ∧ (∃ p n c, v = .slice p n c) ∧ l.length ≤ Rows.uptoBulk x.1 := by
  rcases open_slice Try.underlying54 h with ⟨hcs, rfl⟩ | ⟨a, len, cap, m, n, D, Pl, hcs, hb, hl, hm, hmm, hx, hi⟩
  · obtain rfl : v = .slice none 0 0 := by simpa using hcs
    exact ⟨[], ⟨none, 0, rfl, by simp, fun h => by simp at h⟩, ⟨none, 0, 0, rfl⟩, by simp⟩
  · obtain rfl : v = .slice (some a) len cap := by simpa using hcs
    obtain ⟨hlen, F, hF⟩ := slice_rows (s := 2) Try.underlying54 cells42 (by omega) allI_pt h
    have hml : len ≤ 281474976710656 := by
      have := length_le ((List.range len).map D)
      rw [hx] at hB
      simp only [Rows.uptoBulk, List.length_map, List.length_range] at this hB
      omega
    refine ⟨(List.range len).map fun k => (F k 0, F k 1), ⟨some a, cap, by simp, by simpa using hml, fun h0 => ?_⟩, ⟨_, _, _, rfl⟩, ?_⟩
    · rw [List.length_map, List.length_range] at h0 ⊢
      obtain ⟨b, off, ha, _, _⟩ := hF 0 h0
      refine ⟨b, off, ha, fun k hk => ?_⟩
      obtain ⟨b2, off2, ha2, _, hr⟩ := hF k hk
      rw [ha] at ha2
      simp only [Option.some.injEq, Addr.mk.injEq] at ha2
      obtain ⟨rfl, rfl, _⟩ := ha2
      dsimp only
      rw [getD_map len _ _ hk]
      exact ⟨hr 0 (by omega), hr 1 (by omega)⟩
    · rw [hx]
      have := length_le ((List.range len).map D)
      simp only [Rows.uptoBulk, List.length_map, List.length_range] at this ⊢
      omega
set_option maxRecDepth 100000 in
/-- one line's cells -/
theorem line_open (hB : Rows.uptoBulk x.1 ≤ 1048576) (h : DataW.trod enc Try.prog w base spare held fuel 56 cs = some x) : ∃ (l : List Pt) (b : Bool) (p : Option Addr) (n c : Nat), cs = [.slice p n c, .bool b] ∧ LnV w (.slice p n c) l ∧ l.length ≤ Rows.uptoBulk x.1 := by
  obtain ⟨xs, n, _, hx, hl, hxs, hall⟩ := DataW.trod_struct Try.underlying56 h
  rw [cells56] at hl
  obtain ⟨c0, c1, rfl⟩ : ∃ c0 c1, cs = [c0, c1] := by
    match cs, hl with
    | [c0, c1], _ => exact ⟨c0, c1, rfl⟩
  have e0 := hall 0 _ rfl
  have e1 := hall 1 _ rfl
  have hs : xs.length = 2 := hxs
  obtain ⟨x0, x1, rfl⟩ : ∃ x0 x1, xs = [x0, x1] := by
    match xs, hs with
    | [x0, x1], _ => exact ⟨x0, x1, rfl⟩
  have e0 : DataW.trod enc Try.prog w base spare held n 54 [c0] = some x0 := e0
  have e1 : DataW.trod enc Try.prog w base spare held n 4 [c1] = some x1 := e1
  obtain ⟨b, hb, _⟩ := DataW.trod_bool Try.underlying4 e1
  obtain rfl : c1 = .bool b := by simpa using hb
  have hB0 : Rows.uptoBulk x0.1 ≤ 1048576 := by
    rw [hx] at hB
    simp only [List.map, Rows.uptoBulk, Rows.uptoBulkAll] at hB
    omega
  obtain ⟨l, hl, ⟨p, n, c, rfl⟩, hle⟩ := points_open hB0 e0
  refine ⟨l, b, p, n, c, rfl, hl, ?_⟩
  rw [hx]
  simp only [List.map, Rows.uptoBulk, Rows.uptoBulkAll]
  omega
theorem sum_le {H : Type} (Lf : Nat → Ln) (D : Nat → DataW H) (len : Nat) (h : ∀ j, j < len → (Lf j).1.length ≤ Rows.uptoBulk (D j)) : ∀ n, n ≤ len → sumLen ((List.range len).map Lf) n ≤ Rows.uptoBulkAll ((List.range n).map D) := by
  intro n hn
  induction n with
  | zero => exact Nat.zero_le _
  | succ n ih =>
    have h1 := ih (by omega)
    have h2 := h n (by omega)
    rw [List.range_succ, List.map_append, bulk_app]
    show sumLen _ n + (((List.range len).map Lf).getD n ([], false)).1.length ≤ _
    rw [getD_map len Lf _ (by omega)]
    simp only [List.map, Rows.uptoBulkAll]
    omega
set_option maxRecDepth 100000 in
/-- a slice of lines -/
theorem lines_open {a : Option Addr} {len cap : Nat} (hB : Rows.uptoBulk x.1 ≤ 1048576) (h : DataW.trod enc Try.prog w base spare held fuel 22 [.slice a len cap] = some x) : ∃ L : List Ln, Lns w (.slice a len cap) L ∧ sumLen L L.length ≤ Rows.uptoBulk x.1 := by
  rcases open_slice Try.underlying22 h with ⟨hcs, rfl⟩ | ⟨a', len', cap', m, n, D, Pl, hcs, hb, hl, hm, hmm, hx, hi⟩
  · simp at hcs
    obtain ⟨rfl, rfl, rfl⟩ := hcs
    exact ⟨[], ⟨none, 0, rfl, by simp, fun h => by simp at h⟩, by simp [sumLen]⟩
  · simp at hcs
    obtain ⟨rfl, rfl, rfl⟩ := hcs
    have hml : len ≤ m := by rw [hmm]; split <;> omega
    have hD : Rows.uptoBulkAll ((List.range len).map D) ≤ 1048576 := by
      rw [hx] at hB
      simp only [Rows.uptoBulk] at hB
      omega
    have hbig : len ≤ 281474976710656 := by
      have := length_le ((List.range len).map D)
      rw [List.length_map, List.length_range] at this
      omega
    have hDj : ∀ j, j < len → Rows.uptoBulk (D j) ≤ 1048576 := fun j hj => Nat.le_trans (part_le (List.mem_map_of_mem (List.mem_range.2 hj))) hD
    have key : ∀ j, ∃ q : Ln, j < len → (∃ p n c, w.cell? (a'.add (j * 2)) = some (.slice p n c) ∧ w.cell? (a'.add (j * 2 + 1)) = some (.bool q.2) ∧ LnV w (.slice p n c) q.1) ∧ q.1.length ≤ Rows.uptoBulk (D j) := fun j => by
      by_cases hj : j < len
      · obtain ⟨cs', hc, ht'⟩ := hi j (by omega)
        rw [cells56] at hc
        obtain ⟨_, hcl, hat⟩ := World.cells?_some hc
        obtain ⟨l, b, p, n, c, rfl, hln, hle⟩ := line_open (hDj j hj) ht'
        have h0 := hat 0 (by omega)
        have h1 := hat 1 (by omega)
        rw [Go.Deep.add_add] at h0 h1
        exact ⟨(l, b), fun _ => ⟨⟨p, n, c, h0, h1, hln⟩, hle⟩⟩
      · exact ⟨([], false), fun h => absurd h hj⟩
    refine ⟨(List.range len).map fun j => (key j).choose, ⟨some a', cap, by simp, by simpa using hbig, fun h0 => ?_⟩, ?_⟩
    · rw [List.length_map, List.length_range] at h0 ⊢
      have hsp : a'.spot = none := by
        obtain ⟨⟨p, n, c, h1, _⟩, _⟩ := (key 0).choose_spec h0
        rw [show 0 * 2 = 0 from rfl] at h1
        exact spot_none h1
      refine ⟨a'.block, a'.off, by obtain ⟨b, o, sp⟩ := a'; simp at hsp; subst hsp; rfl, fun j hj => ?_⟩
      rw [getD_map len _ _ hj]
      obtain ⟨⟨p, n, c, h1, h2, h3⟩, _⟩ := (key j).choose_spec hj
      have e1 := (add_none h1).1
      have e2 := (add_none h2).1
      rw [← Nat.add_assoc] at e2
      exact ⟨p, n, c, e1, e2, h3⟩
    · rw [hx]
      have := sum_le (fun j => (key j).choose) D len (fun j hj => ((key j).choose_spec hj).2) len (Nat.le_refl _)
      rw [List.length_map, List.length_range]
      simp only [Rows.uptoBulk]
      omega
end
end Go.Proofs.Ythglgempbdaikaa
