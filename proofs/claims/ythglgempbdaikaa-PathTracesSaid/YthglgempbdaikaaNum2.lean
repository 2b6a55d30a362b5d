/- Contracts of the reference's numbers: at, cut. -/
import Derived.Test.YthglgempbdaikaaNum1
import Derived.Test.YthglgempbdaikaaSl
import Derived.Test.YthglgempbdaikaaAff
namespace Go.Proofs.Ythglgempbdaikaa
open Go.RowKit

theorem at_any (v : Value) (l : List Nat) (i : Nat) (w : World) (hi : i ≤ 281474976710656) (h : Rd .u64 w v l) : Calls Try.prog 88 #[v, .int .i64 i] w fun e w' => e = .returned (.int .u64 (l.getD i 0 : Nat)) ∧ w = w' := by
  obtain ⟨a, cap, rfl, hl, hc⟩ := h
  by_cases hlt : i < l.length
  · obtain ⟨g, off, rfl, hcc⟩ := hc (by omega)
    have c := hcc i hlt
    clear hc hcc
    go_enter Try.func88, Try.ntmps88
    go_wp2
    go_ret
    exact ⟨rfl, rfl⟩
  · have e : l.getD i 0 = 0 := by simp [List.getD, List.getElem?_eq_none (show l.length ≤ i by omega)]
    rw [e]
    clear hc e
    go_enter Try.func88, Try.ntmps88
    go_wp2
    go_ret
    exact ⟨rfl, rfl⟩

/-- a slice's length lies within its capacity -/
def CapOk (v : Value) : Prop := ∃ a n cap, v = .slice a n cap ∧ n ≤ cap
def ZR (l : List Nat) (n : Nat) : Prop := ∀ j, n ≤ j → j < l.length → l.getD j 0 = 0
theorem rd_take {w : World} {a : Option Addr} {l : List Nat} {n cap : Nat} (hn : n ≤ l.length) (h : Rd .u64 w (.slice a l.length cap) l) : Rd .u64 w (.slice a n cap) (l.take n) := by
  obtain ⟨a', cap', hv, hl, hc⟩ := h
  cases hv
  have hlen : (l.take n).length = n := by simp; omega
  refine ⟨a, cap, by rw [hlen], by omega, fun h0 => ?_⟩
  obtain ⟨g, off, ha, hcc⟩ := hc (by omega)
  refine ⟨g, off, ha, fun j hj => ?_⟩
  have := hcc j (by omega)
  rw [this]
  simp [List.getD, show j < n by omega]
theorem cut_any (v : Value) (l : List Nat) (w : World) (hd : ∀ x ∈ l, x < 65536) (h : Rd .u64 w v l) (hcap : CapOk v) : Calls Try.prog 94 #[v] w fun e w' => (∃ v', e = .returned v' ∧ Rd .u64 w v' (dg 65536 (val 65536 l)) ∧ CapOk v') ∧ w = w' := by
  have h' := h
  obtain ⟨a, cap, rfl, hl, hc⟩ := h'
  obtain ⟨_, _, _, hv, hcp⟩ := hcap
  cases hv
  have H := Lib.hid h
  have C := Lib.hid hc
  have D := Lib.hid hd
  clear h hc hd
  go_enter Try.func94, Try.ntmps94
  go_wp2_with fail
  go_loop [3] (fun i => ∃ n : Nat, n ≤ l.length ∧ i = .int .i64 n ∧ ZR l n) (fun i => (intOf i).toNat)
  case atStart => exact ⟨l.length, Nat.le_refl _, rfl, fun j h1 h2 => by omega⟩
  case round =>
    obtain ⟨n, hn, rfl, hz⟩ := hrel
    have Z := Lib.hid hz
    clear hz
    cases n with
    | zero =>
      go_wp2
      go_ret
      have e := dg_cut (B := 65536) (by omega) l 0 (by omega) D.out Z.out (Or.inl rfl)
      exact ⟨⟨_, rfl, by rw [← e]; exact rd_take (by omega) H.out, ⟨_, _, _, rfl, by omega⟩⟩, rfl⟩
    | succ m =>
      obtain ⟨g, off, rfl, hcc⟩ := C.out (by omega)
      have c := hcc m (by omega)
      clear hcc
      obtain ⟨x, hx⟩ : ∃ x : Nat, x = l.getD m 0 := ⟨_, rfl⟩
      rw [← hx] at c
      by_cases h0 : x = 0
      · subst h0
        have X := Lib.hid hx
        clear hx
        go_wp2_with fail
        go_round
        case rel =>
          refine ⟨m, by omega, by go_num, fun j h1 h2 => ?_⟩
          by_cases e : j = m
          · subst e; exact X.out.symm
          · exact Z.out j (by omega) h2
        case measure => first | (simp [intOf]; done) | (simp [intOf]; omega)
      · have X := Lib.hid hx
        clear hx
        have h0' : ((x : Int) == 0) = false := by simp; omega
        go_wp2_with fail
        go_ret
        have e := dg_cut (B := 65536) (by omega) l (m + 1) hn D.out Z.out (Or.inr (by show l.getD m 0 ≠ 0; rw [← X.out]; exact h0))
        exact ⟨⟨_, rfl, by rw [← e]; exact rd_take hn H.out, ⟨_, _, _, rfl, by omega⟩⟩, rfl⟩
end Go.Proofs.Ythglgempbdaikaa
