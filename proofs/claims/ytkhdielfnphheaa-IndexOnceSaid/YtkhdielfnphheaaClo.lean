/- Contracts of slices.Clone at four types. -/
import Derived.Test.YtkhdielfnphheaaIx0
namespace Go.Proofs.Ytkhdielfnphheaa
open Go.RowKit

/-- a new row of the same cells -/
def ClonePost (e s n : Nat) (xs : List Value) (w : World) (en : Ending) (w' : World) : Prop := ∃ v', en = .returned v' ∧ Below w.heap.size w w' ∧ w'.ownsRow w.heap.size e s v' n xs
theorem Try.info94 : (Try.prog.info? 94).map (fun i => (i.zero, i.size, i.bytes)) = some (some (.slice none 0 0), 1, 24) := by kernel_rfl
theorem Try.under24 : Try.prog.underlying 24 = some (.slice 94) := by kernel_rfl
set_option maxRecDepth 100000 in
theorem clone23_nil (w : World) : Calls Try.prog 23 #[.slice none 0 0] w (ClonePost 94 1 0 [] w) := by
  have hq := fun (w : World) => Lib.run_eql_slice_nil (P := Try.prog) w 24 94 none 0 0 0 0 Try.under24
  go_enter Try.func23, Try.ntmps23
  go_wp2_with fail
  go_ret
  exact ⟨_, rfl, Below.refl _ _, World.ownsRow_nil _ _ _ _⟩
set_option maxRecDepth 100000 in
theorem clone23_some (a : Addr) (n cap : Nat) (xs : List Value) (w : World) (hl : xs.length = n * 1) (hc : ∀ j u, xs[j]? = some u → w.cell? (a.add j) = some u) (h1 : ∀ u ∈ xs, u.oneCell' = true) (hb : n * 24 ≤ 140737488355328) :
    Calls Try.prog 23 #[.slice (some a) n cap] w (ClonePost 94 1 n xs w) := by
  obtain ⟨i0, hi, hz0, hz1, hz2⟩ := info_parts Try.info94
  have hq := fun (w : World) => Lib.run_eql_slice_nil (P := Try.prog) w 24 94 (some a) n cap 0 0 Try.under24
  have HC : Hid (∀ j u, xs[j]? = some u → (w.alloc (.cells #[] 94)).cell? (a.add j) = some u) := Lib.hid (fun j u hj => cell_later (below_alloc w _) (hc j u hj))
  have HL := Lib.hid hl
  have H1 := Lib.hid h1
  have HB := Lib.hid hb
  clear hl hc h1 hb
  go_enter Try.func23, Try.ntmps23
  go_wp2_with (at_builtin; go_loud (refine wpList_append_own (w := w.alloc (.cells #[] 94)) rfl (.tmp 5) (.tmp 6) 24 rfl w.heap.size 94 i0 (.slice none 0 0) 1 24 Try.under24 hi hz0 hz1 hz2 rfl (by decide) (.slice (some ⟨w.heap.size, 0, none⟩) 0 0) 0 [] rfl ?c0 a n cap xs rfl HL.out HC.out H1.out ?c1 ?c2 ?c3 ?_))
  case c0 => exact ⟨rfl, .inr ⟨w.heap.size, 0, #[], rfl, Nat.le_refl _, heap_alloc_new w _, Nat.le_refl _, by decide, rfl, rfl⟩⟩
  case c1 => have := HB.out; unfold maxLen; omega
  case c2 => have := HB.out; omega
  case c3 => simp
  intro v' w' own hg _
  have OW := Lib.hid own
  have BB : Hid (Below w.heap.size w w') := Lib.hid ((below_alloc w _).grown hg (by simp) (fun k hk => by simp [Value.ownBlock] at hk; omega))
  clear own hg
  go_wp2_with fail
  go_ret
  exact ⟨_, rfl, BB.out, by simpa using OW.out⟩
theorem Try.info58 : (Try.prog.info? 58).map (fun i => (i.zero, i.size, i.bytes)) = some (some (.agg #[.int .i64 0, .int .i64 0, .int .i64 0, .int .i64 0, .int .i64 0, .int .i64 0, .int .i64 0, .int .u8 0, .int .u8 0, .int .u8 0, .int .u8 0, .int .u8 0, .int .u8 0, .int .u8 0, .int .u8 0]), 15, 64) := by kernel_rfl
theorem Try.under26 : Try.prog.underlying 26 = some (.slice 58) := by kernel_rfl
set_option maxRecDepth 100000 in
theorem clone24_nil (w : World) : Calls Try.prog 24 #[.slice none 0 0] w (ClonePost 58 15 0 [] w) := by
  have hq := fun (w : World) => Lib.run_eql_slice_nil (P := Try.prog) w 26 58 none 0 0 0 0 Try.under26
  go_enter Try.func24, Try.ntmps24
  go_wp2_with fail
  go_ret
  exact ⟨_, rfl, Below.refl _ _, World.ownsRow_nil _ _ _ _⟩
set_option maxRecDepth 100000 in
theorem clone24_some (a : Addr) (n cap : Nat) (xs : List Value) (w : World) (hl : xs.length = n * 15) (hc : ∀ j u, xs[j]? = some u → w.cell? (a.add j) = some u) (h1 : ∀ u ∈ xs, u.oneCell' = true) (hb : n * 64 ≤ 140737488355328) :
    Calls Try.prog 24 #[.slice (some a) n cap] w (ClonePost 58 15 n xs w) := by
  obtain ⟨i0, hi, hz0, hz1, hz2⟩ := info_parts Try.info58
  have hq := fun (w : World) => Lib.run_eql_slice_nil (P := Try.prog) w 26 58 (some a) n cap 0 0 Try.under26
  have HC : Hid (∀ j u, xs[j]? = some u → (w.alloc (.cells #[] 58)).cell? (a.add j) = some u) := Lib.hid (fun j u hj => cell_later (below_alloc w _) (hc j u hj))
  have HL := Lib.hid hl
  have H1 := Lib.hid h1
  have HB := Lib.hid hb
  clear hl hc h1 hb
  go_enter Try.func24, Try.ntmps24
  go_wp2_with (at_builtin; go_loud (refine wpList_append_own (w := w.alloc (.cells #[] 58)) rfl (.tmp 5) (.tmp 6) 26 rfl w.heap.size 58 i0 (.agg #[.int .i64 0, .int .i64 0, .int .i64 0, .int .i64 0, .int .i64 0, .int .i64 0, .int .i64 0, .int .u8 0, .int .u8 0, .int .u8 0, .int .u8 0, .int .u8 0, .int .u8 0, .int .u8 0, .int .u8 0]) 15 64 Try.under26 hi hz0 hz1 hz2 rfl (by decide) (.slice (some ⟨w.heap.size, 0, none⟩) 0 0) 0 [] rfl ?c0 a n cap xs rfl HL.out HC.out H1.out ?c1 ?c2 ?c3 ?_))
  case c0 => exact ⟨rfl, .inr ⟨w.heap.size, 0, #[], rfl, Nat.le_refl _, heap_alloc_new w _, Nat.le_refl _, by decide, rfl, rfl⟩⟩
  case c1 => have := HB.out; unfold maxLen; omega
  case c2 => have := HB.out; omega
  case c3 => simp
  intro v' w' own hg _
  have OW := Lib.hid own
  have BB : Hid (Below w.heap.size w w') := Lib.hid ((below_alloc w _).grown hg (by simp) (fun k hk => by simp [Value.ownBlock] at hk; omega))
  clear own hg
  go_wp2_with fail
  go_ret
  exact ⟨_, rfl, BB.out, by simpa using OW.out⟩
theorem Try.info99 : (Try.prog.info? 99).map (fun i => (i.zero, i.size, i.bytes)) = some (some (.agg #[.int .i64 0, .int .i64 0, .int .i64 0, .int .i64 0, .int .i64 0, .int .i64 0, .int .i64 0]), 7, 56) := by kernel_rfl
theorem Try.under64 : Try.prog.underlying 64 = some (.slice 99) := by kernel_rfl
set_option maxRecDepth 100000 in
theorem clone25_nil (w : World) : Calls Try.prog 25 #[.slice none 0 0] w (ClonePost 99 7 0 [] w) := by
  have hq := fun (w : World) => Lib.run_eql_slice_nil (P := Try.prog) w 64 99 none 0 0 0 0 Try.under64
  go_enter Try.func25, Try.ntmps25
  go_wp2_with fail
  go_ret
  exact ⟨_, rfl, Below.refl _ _, World.ownsRow_nil _ _ _ _⟩
set_option maxRecDepth 100000 in
theorem clone25_some (a : Addr) (n cap : Nat) (xs : List Value) (w : World) (hl : xs.length = n * 7) (hc : ∀ j u, xs[j]? = some u → w.cell? (a.add j) = some u) (h1 : ∀ u ∈ xs, u.oneCell' = true) (hb : n * 56 ≤ 140737488355328) :
    Calls Try.prog 25 #[.slice (some a) n cap] w (ClonePost 99 7 n xs w) := by
  obtain ⟨i0, hi, hz0, hz1, hz2⟩ := info_parts Try.info99
  have hq := fun (w : World) => Lib.run_eql_slice_nil (P := Try.prog) w 64 99 (some a) n cap 0 0 Try.under64
  have HC : Hid (∀ j u, xs[j]? = some u → (w.alloc (.cells #[] 99)).cell? (a.add j) = some u) := Lib.hid (fun j u hj => cell_later (below_alloc w _) (hc j u hj))
  have HL := Lib.hid hl
  have H1 := Lib.hid h1
  have HB := Lib.hid hb
  clear hl hc h1 hb
  go_enter Try.func25, Try.ntmps25
  go_wp2_with (at_builtin; go_loud (refine wpList_append_own (w := w.alloc (.cells #[] 99)) rfl (.tmp 5) (.tmp 6) 64 rfl w.heap.size 99 i0 (.agg #[.int .i64 0, .int .i64 0, .int .i64 0, .int .i64 0, .int .i64 0, .int .i64 0, .int .i64 0]) 7 56 Try.under64 hi hz0 hz1 hz2 rfl (by decide) (.slice (some ⟨w.heap.size, 0, none⟩) 0 0) 0 [] rfl ?c0 a n cap xs rfl HL.out HC.out H1.out ?c1 ?c2 ?c3 ?_))
  case c0 => exact ⟨rfl, .inr ⟨w.heap.size, 0, #[], rfl, Nat.le_refl _, heap_alloc_new w _, Nat.le_refl _, by decide, rfl, rfl⟩⟩
  case c1 => have := HB.out; unfold maxLen; omega
  case c2 => have := HB.out; omega
  case c3 => simp
  intro v' w' own hg _
  have OW := Lib.hid own
  have BB : Hid (Below w.heap.size w w') := Lib.hid ((below_alloc w _).grown hg (by simp) (fun k hk => by simp [Value.ownBlock] at hk; omega))
  clear own hg
  go_wp2_with fail
  go_ret
  exact ⟨_, rfl, BB.out, by simpa using OW.out⟩
theorem Try.info23 : (Try.prog.info? 23).map (fun i => (i.zero, i.size, i.bytes)) = some (some (.agg #[.int .u8 0, .int .u8 0, .int .u8 0, .int .u8 0]), 4, 4) := by kernel_rfl
theorem Try.under36 : Try.prog.underlying 36 = some (.slice 23) := by kernel_rfl
set_option maxRecDepth 100000 in
theorem clone26_nil (w : World) : Calls Try.prog 26 #[.slice none 0 0] w (ClonePost 23 4 0 [] w) := by
  have hq := fun (w : World) => Lib.run_eql_slice_nil (P := Try.prog) w 36 23 none 0 0 0 0 Try.under36
  go_enter Try.func26, Try.ntmps26
  go_wp2_with fail
  go_ret
  exact ⟨_, rfl, Below.refl _ _, World.ownsRow_nil _ _ _ _⟩
set_option maxRecDepth 100000 in
theorem clone26_some (a : Addr) (n cap : Nat) (xs : List Value) (w : World) (hl : xs.length = n * 4) (hc : ∀ j u, xs[j]? = some u → w.cell? (a.add j) = some u) (h1 : ∀ u ∈ xs, u.oneCell' = true) (hb : n * 4 ≤ 140737488355328) :
    Calls Try.prog 26 #[.slice (some a) n cap] w (ClonePost 23 4 n xs w) := by
  obtain ⟨i0, hi, hz0, hz1, hz2⟩ := info_parts Try.info23
  have hq := fun (w : World) => Lib.run_eql_slice_nil (P := Try.prog) w 36 23 (some a) n cap 0 0 Try.under36
  have HC : Hid (∀ j u, xs[j]? = some u → (w.alloc (.cells #[] 23)).cell? (a.add j) = some u) := Lib.hid (fun j u hj => cell_later (below_alloc w _) (hc j u hj))
  have HL := Lib.hid hl
  have H1 := Lib.hid h1
  have HB := Lib.hid hb
  clear hl hc h1 hb
  go_enter Try.func26, Try.ntmps26
  go_wp2_with (at_builtin; go_loud (refine wpList_append_own (w := w.alloc (.cells #[] 23)) rfl (.tmp 5) (.tmp 6) 36 rfl w.heap.size 23 i0 (.agg #[.int .u8 0, .int .u8 0, .int .u8 0, .int .u8 0]) 4 4 Try.under36 hi hz0 hz1 hz2 rfl (by decide) (.slice (some ⟨w.heap.size, 0, none⟩) 0 0) 0 [] rfl ?c0 a n cap xs rfl HL.out HC.out H1.out ?c1 ?c2 ?c3 ?_))
  case c0 => exact ⟨rfl, .inr ⟨w.heap.size, 0, #[], rfl, Nat.le_refl _, heap_alloc_new w _, Nat.le_refl _, by decide, rfl, rfl⟩⟩
  case c1 => have := HB.out; unfold maxLen; omega
  case c2 => have := HB.out; omega
  case c3 => simp
  intro v' w' own hg _
  have OW := Lib.hid own
  have BB : Hid (Below w.heap.size w w') := Lib.hid ((below_alloc w _).grown hg (by simp) (fun k hk => by simp [Value.ownBlock] at hk; omega))
  clear own hg
  go_wp2_with fail
  go_ret
  exact ⟨_, rfl, BB.out, by simpa using OW.out⟩
end Go.Proofs.Ytkhdielfnphheaa
