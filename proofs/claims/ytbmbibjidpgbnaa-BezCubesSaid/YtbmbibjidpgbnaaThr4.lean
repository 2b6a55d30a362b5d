/- Contracts of frisketref10: Same, All; of affine.All. -/
import Derived.Test.YtbmbibjidpgbnaaThr3
import Derived.Test.YtbmbibjidpgbnaaBez4
namespace Go.Proofs.Ytbmbibjidpgbnaa
open Go.RowKit

/-- a slice of n points, none of them where n is 0 -/
def Pts (w : World) (sv : Value) (n : Nat) (X Y : Nat → Int) : Prop := ∃ (a : Option Addr) (cap : Nat), sv = .slice a n cap ∧ n ≤ 281474976710656 ∧ (0 < n → ∃ g off, a = some ⟨g, off, none⟩ ∧ PtAt w g off n X Y)
theorem Pts.later {w w1 : World} {sv : Value} {n : Nat} {X Y : Nat → Int} (h : Pts w sv n X Y) (hb : Below w.heap.size w w1) : Pts w1 sv n X Y := by
  obtain ⟨a, cap, hv, hn, hc⟩ := h
  refine ⟨a, cap, hv, hn, fun h0 => ?_⟩
  obtain ⟨g, off, ha, hp⟩ := hc h0
  exact ⟨g, off, ha, hp.later hb⟩
set_option maxRecDepth 100000 in
set_option maxHeartbeats 1600000 in
theorem same_any (v u : Value) (n : Nat) (X Y : Nat → Int) (w : World) (h : Pts w v n X Y) (h2 : Pts w u n X Y) : Calls Try.prog 30 #[v, u] w (RetPost (.bool true) w) := by
  obtain ⟨p, c, rfl, hn, hc⟩ := h
  obtain ⟨p2, c2, rfl, _, hc2⟩ := h2
  have C := Lib.hid hc
  have C2 := Lib.hid hc2
  clear hc hc2
  go_enter Try.func30, Try.ntmps30
  go_wp2_with fail
  go_loopw [5] (fun i wr => ∃ k : Nat, k ≤ n ∧ i = .int .i64 k ∧ Below w.heap.size w wr) (fun i _ => n - (intOf i).toNat)
  case atStart => exact ⟨0, by omega, rfl, Below.refl _ _⟩
  case round =>
    obtain ⟨k, hk, rfl, hb⟩ := hrel
    have B := Lib.hid hb
    clear hb
    by_cases hlt : k < n
    · obtain ⟨g, off, rfl, hp⟩ := C.out (by omega)
      obtain ⟨g2, off2, rfl, hp2⟩ := C2.out (by omega)
      obtain ⟨c0, c1⟩ := hp.later B.out k hlt
      obtain ⟨d0, d1⟩ := hp2.later B.out k hlt
      have hk0 : (0 : Int) ≤ (k : Int) := by omega
      have hk3 : (k : Int) < (n : Int) := by omega
      obtain ⟨x, hx⟩ : ∃ x, x = X k := ⟨_, rfl⟩
      obtain ⟨y, hy⟩ : ∃ y, y = Y k := ⟨_, rfl⟩
      rw [← hx] at c0 d0
      rw [← hy] at c1 d1
      clear hp hp2 hx hy
      go_wp2_with fail
      go_quiet (fail)
      go_wp2_with fail
      refine ⟨⟨k + 1, by omega, by go_num, below_drewN B.out _⟩, by (first | (simp [intOf]; done) | (simp [intOf]; omega) | (simp only [intOf]; omega))⟩
    · go_wp2_with fail
      go_ret
      exact ⟨rfl, B.out⟩
/-- the cells of the first k points -/
def rowT (f : Nat → Int × Int × Int) : Nat → List Value
  | 0 => []
  | k + 1 => rowT f k ++ [.int .i64 (f k).1, .int .i64 (f k).2.1]
theorem rowT_length (f : Nat → Int × Int × Int) (k : Nat) : (rowT f k).length = k * 2 := by
  induction k with
  | zero => rfl
  | succ k ih => simp [rowT, ih]; omega
theorem rowT_get (f : Nat → Int × Int × Int) (k j : Nat) (h : j < k) : (rowT f k)[j * 2]? = some (.int .i64 (f j).1) ∧ (rowT f k)[j * 2 + 1]? = some (.int .i64 (f j).2.1) := by
  induction k with
  | zero => omega
  | succ k ih =>
    have hl := rowT_length f k
    by_cases e : j = k
    · subst e
      unfold rowT
      constructor
      · rw [List.getElem?_append_right (by omega), hl]; simp
      · rw [List.getElem?_append_right (by omega), hl]; simp
    · have h1 := ih (by omega)
      unfold rowT
      rw [List.getElem?_append_left (by omega), List.getElem?_append_left (by omega)]
      exact h1
theorem Pts.of_owns {w : World} {B : Nat} {v : Value} {n : Nat} {f : Nat → Int × Int × Int} (hn : n ≤ 281474976710656) (h : w.ownsRow B 25 2 v n (rowT f n)) : Pts w v n (fun j => (f j).1) (fun j => (f j).2.1) := by
  rcases h.2 with ⟨hv, h0⟩ | ⟨g, cap, cur, hv, hg, hh, _, _, _, htake⟩
  · subst h0
    exact ⟨none, 0, hv, by omega, fun h => by omega⟩
  · refine ⟨_, cap, hv, hn, fun _ => ⟨g, 0, rfl, fun j hj => ?_⟩⟩
    have hadd : ∀ i, (⟨g, 0, none⟩ : Addr).add i = ⟨g, 0 + i, none⟩ := by intro i; unfold Addr.add; split <;> simp_all
    have hc := h.cells (g := g) (by rw [hv]; rfl) (j * 2) _ (rowT_get f n j hj).1
    have hd := h.cells (g := g) (by rw [hv]; rfl) (j * 2 + 1) _ (rowT_get f n j hj).2
    rw [hadd] at hc hd
    exact ⟨hc, hd⟩
def OkTo (f : Nat → Int × Int × Int) (k : Nat) : Prop := ∀ j, j < k → (f j).2.2 = 0
def AllPost (f : Nat → Int × Int × Int) (n : Nat) (w : World) (e : Ending) (w' : World) : Prop :=
  Below w.heap.size w w' ∧ ((∃ k, k < n ∧ OkTo f k ∧ (f k).2.2 ≠ 0 ∧ e = .returned (.tuple #[.slice none 0 0, .int .i64 (f k).2.2])) ∨
    (OkTo f n ∧ ∃ v, e = .returned (.tuple #[v, .int .i64 0]) ∧ Pts w' v n (fun j => (f j).1) (fun j => (f j).2.1)))
theorem Maps.wide {m n : Nat} {W : World} {sv : Value} {k : Nat} {ms : Nat → Mp} (hmn : m ≤ n) (h : Maps m W sv k ms) : Maps n W sv k ms := by
  obtain ⟨a, cap, hv, hl, hc⟩ := h
  refine ⟨a, cap, hv, hl, fun h0 => ?_⟩
  obtain ⟨g, off, ha, hg, hh⟩ := hc h0
  exact ⟨g, off, ha, by omega, hh⟩
set_option maxRecDepth 100000 in
set_option maxHeartbeats 6400000 in
theorem rall_any (a : Option Addr) (len cap : Nat) (ms : Nat → Mp) (v : Value) (n : Nat) (X Y : Nat → Int) (w : World) (hn43 : n ≤ 8796093022207) (hM : Maps w.heap.size w (.slice a len cap) len ms) (h : Pts w v n X Y) :
    Calls Try.prog 28 #[.slice a len cap, v] w (AllPost (fun j => goT (upto (rev len ms) len) (X j) (Y j)) n w) := by
  obtain ⟨i0, hi, hz0, hz1, hz2⟩ := info_parts Try.info25
  obtain ⟨p, c, rfl, _, hc⟩ := h
  have M := Lib.hid hM
  have C := Lib.hid hc
  clear hc hM
  obtain ⟨f, hf⟩ : ∃ f : Nat → Int × Int × Int, f = fun j => goT (upto (rev len ms) len) (X j) (Y j) := ⟨_, rfl⟩
  rw [← hf]
  have F : Hid (∀ j, goT (upto (rev len ms) len) (X j) (Y j) = f j) := Lib.hid (fun j => by rw [hf])
  clear hf
  go_enter Try.func28, Try.ntmps28
  go_wp2_with fail
  go_loopw [6, 7] (fun v i wr => ∃ k : Nat, k ≤ n ∧ i = .int .i64 k ∧ OkTo f k ∧ wr.ownsRow w.heap.size 25 2 v k (rowT f k) ∧ Below w.heap.size w wr) (fun _ i _ => n - (intOf i).toNat)
  case atStart => exact ⟨0, by omega, rfl, (fun j hj => by omega), World.ownsRow_nil _ _ _ _, Below.refl _ _⟩
  case round =>
    obtain ⟨k, hk, rfl, hok, hown, hb⟩ := hrel
    have K := Lib.hid hok
    have O := Lib.hid hown
    have B := Lib.hid hb
    clear hok hown hb
    by_cases hlt : k < n
    · obtain ⟨g, off, rfl, hp⟩ := C.out (by omega)
      obtain ⟨c0, c1⟩ := hp.later B.out k hlt
      have hk0 : (0 : Int) ≤ (k : Int) := by omega
      have hk3 : (k : Int) < (n : Int) := by omega
      obtain ⟨x, hx⟩ : ∃ x, x = X k := ⟨_, rfl⟩
      obtain ⟨y, hy⟩ : ∃ y, y = Y k := ⟨_, rfl⟩
      rw [← hx] at c0
      rw [← hy] at c1
      have F1 : Hid (goT (upto (rev len ms) len) x y = f k) := Lib.hid (by rw [hx, hy]; exact F.out k)
      clear hp hx hy
      go_wp2_with fail
      refine (rthrough_any a len cap ms x y wr (Maps.wide B.out.size (Maps.below B.out M.out))).mono ?_
      rintro e w1 ⟨rfl, hb⟩
      rw [F1.out]
      have O1 := own_later O.out hb
      have B1 := Lib.hid (B.out.trans (hb.mono B.out.size))
      clear hb O B c0 c1
      obtain ⟨q1, hq1⟩ : ∃ z, z = (f k).1 := ⟨_, rfl⟩
      obtain ⟨q2, hq2⟩ : ∃ z, z = (f k).2.1 := ⟨_, rfl⟩
      obtain ⟨q3, hq3⟩ : ∃ z, z = (f k).2.2 := ⟨_, rfl⟩
      rw [← hq1, ← hq2, ← hq3]
      have Q : Hid (q1 = (f k).1 ∧ q2 = (f k).2.1 ∧ q3 = (f k).2.2) := Lib.hid ⟨hq1, hq2, hq3⟩
      clear hq1 hq2 hq3
      by_cases h0 : q3 = 0
      · subst h0
        have O2 := O1.alloc (.cells #[.int .i64 q1, .int .i64 q2] 25)
        clear O1
        have s1 := B1.out.size
        have hbase : w.heap.size ≤ (w1.alloc (.cells #[.int .i64 q1, .int .i64 q2] 25)).heap.size := by simp; omega
        have hsz2 : (w1.alloc (.cells #[.int .i64 q1, .int .i64 q2] 25)).heap.size = w1.heap.size + 1 := by simp
        have BB : Hid (Below w.heap.size w (w1.alloc (.cells #[.int .i64 q1, .int .i64 q2] 25))) := Lib.hid (B1.out.alloc s1 _)
        go_wp2_with (at_builtin; go_loud (refine wpList_app (w0 := w1.alloc (.cells #[.int .i64 q1, .int .i64 q2] 25)) rfl (.tmp 28) (.tmp 30) 47 rfl w.heap.size 25 i0 (.agg #[.int .i64 0, .int .i64 0]) 2 16 [.int .i64 q1, .int .i64 q2] Try.underlying47 hi hz0 hz1 hz2 rfl rfl (by decide) _ _ _ rfl O2 (by rw [hsz2]; rfl) (by simp [Value.oneCell']) ?c1 ?c2 hbase ?_))
        case c1 => unfold maxLen; omega
        case c2 => omega
        intro g' cap' w5 hown5 hb5
        have S := Lib.hid (BB.out.trans hb5)
        have O5 : Hid (w5.ownsRow w.heap.size 25 2 (.slice (some ⟨g', 0, none⟩) (k + 1) cap') (k + 1) (rowT f (k + 1))) := Lib.hid (by
          have e1 := Q.out.1
          have e2 := Q.out.2.1
          unfold rowT
          rw [← e1, ← e2]
          exact hown5)
        clear hown5 hb5 O2 BB hbase
        go_wp2_with fail
        refine ⟨⟨k + 1, by omega, by go_num, ?_, O5.out, S.out⟩, by (first | (simp [intOf]; done) | (simp [intOf]; omega) | (simp only [intOf]; omega))⟩
        intro j hj
        by_cases e : j = k
        · subst e; exact Q.out.2.2.symm
        · exact K.out j (by omega)
      · have O2 := Lib.hid O1
        clear O1
        go_wp2_with fail
        refine bodyPost_ret (v := .tuple #[.slice none 0 0, .int .i64 q3]) ?_ rfl ?_
        · simp [results, Try.results28, go_sem]
        · refine ⟨?_, Or.inl ⟨k, hlt, K.out, ?_, ?_⟩⟩
          · have B := B1.out
            have := B.size
            ((repeat' (first | with_reducible exact Below.refl _ _ | with_reducible assumption | with_reducible refine Below.drew ?_ | with_reducible refine Below.alloc ?_ ?_ _ | with_reducible refine Below.setCell ?_ ?_ _)) <;> (first | omega | (simp; done) | (simp; omega)))
          · rw [← Q.out.2.2]; exact h0
          · rw [Q.out.2.2]
    · have ek : k = n := by omega
      subst ek
      go_wp2_with fail
      refine bodyPost_ret (v := .tuple #[u6, .int .i64 0]) ?_ rfl ?_
      · simp [results, Try.results28, go_sem]
      · exact ⟨B.out, Or.inr ⟨K.out, u6, rfl, Pts.of_owns (by omega) O.out⟩⟩
end Go.Proofs.Ytbmbibjidpgbnaa
