/- Contracts of sync.Once, its lock, and the counters, in one goroutine (after the kit's worked proof of Lazy). -/
import Derived.Test.YtkhdielfnphheaaNew0
import Derived.Tactics
import Derived.Tactics2
import Derived.Defers
import Derived.Laws.Pointers
import Derived.Laws.LoneSync
import Derived.RegionTactic
import Derived.RegionCalls
import Derived.ChangeAlike
namespace Go.Proofs.Ytkhdielfnphheaa
open Go.RowKit

theorem Try.pt134 : Try.prog.underlying 134 = some (.pointer 80) := by kernel_rfl
theorem Try.pt138 : Try.prog.underlying 138 = some .unsafePointer := by kernel_rfl
theorem disable (w : World) : (callFunc 65 #[]).run Try.prog w = .ok (.value (.tuple #[])) w := run_call_mark0 Try.func65 (by kernel_rfl) (by kernel_rfl) (by kernel_rfl) .disable (by kernel_rfl) w
theorem enable (w : World) : (callFunc 67 #[]).run Try.prog w = .ok (.value (.tuple #[])) w := run_call_mark0 Try.func67 (by kernel_rfl) (by kernel_rfl) (by kernel_rfl) .enable (by kernel_rfl) w
theorem acquire (a : Addr) (w : World) : (callFunc 68 #[.pointer (some a)]).run Try.prog w = .ok (.value (.tuple #[])) w := run_call_marked Try.func68 (by kernel_rfl) (by kernel_rfl) (by kernel_rfl) .acquire (by kernel_rfl) a w
theorem releaseMerge (a : Addr) (w : World) : (callFunc 70 #[.pointer (some a)]).run Try.prog w = .ok (.value (.tuple #[])) w := run_call_marked Try.func70 (by kernel_rfl) (by kernel_rfl) (by kernel_rfl) .releaseMerge (by kernel_rfl) a w
theorem store_deferred (a : Addr) (x : Value) (u : FrameMode) (w : World) (hc : w.cell? a = some x) (hz : w.frozen? a = false) :
    CallsD Try.prog 50 #[.pointer (some a), .bool true] u w fun e u' w' => u' = u ∧ (e = .returned (.tuple #[]) ∧ w' = w.drew.setCell a (.int .u32 1)) := by
  have hc' : w.drew.cell? a = some x := by go_simp
  have hz' : w.drew.frozen? a = false := by go_simp
  have hst := run_call_store (P := Try.prog) Try.func59 (by kernel_rfl) (by kernel_rfl) (by kernel_rfl) (by kernel_rfl) (k := .u32) (y := 1) hc' hz'
  go_enter_d Try.func50, Try.ntmps50
  go_wp2
  go_region_calls
  all_goals (go_end0; exact ⟨rfl, rfl⟩)
set_option maxRecDepth 100000 in
theorem unlock_deferred (a : Addr) (u : FrameMode) (w : World) (hc : w.cell? a = some (.int .i32 1)) (hz : w.frozen? a = false) :
    CallsD Try.prog 49 #[.pointer (some a)] u w fun e u' w' => u' = u ∧ (e = .returned (.tuple #[]) ∧ w' = w.setCell a (.int .i32 0)) := by
  have hd := disable
  have he := enable
  have hr := releaseMerge
  have hadd := run_call_add (P := Try.prog) Try.func71 (by kernel_rfl) (by kernel_rfl) (by kernel_rfl) .i32 (by kernel_rfl) (y := -1) (s := 0) hc hz (by simp [go_sem]; rfl)
  have hcv := run_convert_to_unsafe (P := Try.prog) (src := 134) (dst := 138) Try.pt134 Try.pt138 (by kernel_rfl) hc
  go_enter_d Try.func49, Try.ntmps49
  go_wp2
  go_end0
  go_wp2
  go_end0
  exact ⟨rfl, rfl⟩
set_option maxRecDepth 100000 in
theorem lock_free (a : Addr) (w : World) (hc : w.cell? a = some (.int .i32 0)) (hz : w.frozen? a = false) :
    Calls Try.prog 48 #[.pointer (some a)] w fun e w' => e = .returned (.tuple #[]) ∧ w' = w.setCell a (.int .i32 1) := by
  have hd := disable
  have he := enable
  have ha := acquire
  have hcas := run_call_cas_hit (P := Try.prog) Try.func66 (by kernel_rfl) (by kernel_rfl) (by kernel_rfl) .i32 (by kernel_rfl) (y := 1) hc hz
  have hc' : (w.setCell a (.int .i32 1)).cell? a = some (.int .i32 1) := World.cell?_setCell_same w a _ hc
  have hcv := run_convert_to_unsafe (P := Try.prog) (src := 134) (dst := 138) Try.pt134 Try.pt138 (by kernel_rfl) hc'
  go_enter Try.func48, Try.ntmps48
  go_wp2
  first | go_end0 | (simp only [Exit.inBlock, Exit.then]; refine bodyPost_ret (results_none rfl _ _ _) rfl ?_) | refine bodyPost_ret (results_none rfl _ _ _) rfl ?_
  go_wp2
  go_end0
  exact ⟨rfl, rfl⟩
/-- how the once stands behind what it called -/
def OncPost (X : Nat) (Q : World → Prop) (e : Ending) (w' : World) : Prop := e = .returned (.tuple #[]) ∧ ∃ w1, Q w1 ∧ w' = (w1.drew.setCell ⟨X, 13, none⟩ (.int .u32 1)).setCell ⟨X, 14, none⟩ (.int .i32 0)
set_option maxRecDepth 100000 in
set_option maxHeartbeats 1600000 in
theorem slow_any (X : Nat) (Q : World → Prop) (w : World)
    (h0 : w.cell? ⟨X, 13, none⟩ = some (.int .u32 0)) (h1 : w.cell? ⟨X, 14, none⟩ = some (.int .i32 0)) (f1 : w.frozen? ⟨X, 14, none⟩ = false)
    (C : Calls Try.prog 37 #[.pointer (some ⟨X, 0, none⟩)] (w.setCell ⟨X, 14, none⟩ (.int .i32 1)) fun e w' => e = .returned (.tuple #[]) ∧ Q w')
    (hQ : ∀ w', Q w' → w'.cell? ⟨X, 13, none⟩ = some (.int .u32 0) ∧ w'.cell? ⟨X, 14, none⟩ = some (.int .i32 1) ∧ w'.frozen? ⟨X, 13, none⟩ = false ∧ w'.frozen? ⟨X, 14, none⟩ = false) :
    Calls Try.prog 42 #[.pointer (some ⟨X, 13, none⟩), .func (.func 37) #[.pointer (some ⟨X, 0, none⟩)] #[]] w (OncPost X Q) := by
  have hl := run_call_load (P := Try.prog) Try.func47 (by kernel_rfl) (by kernel_rfl) (by kernel_rfl) .u32 (by kernel_rfl) (w := w.setCell ⟨X, 14, none⟩ (.int .i32 1)) (a := ⟨X, 13, none⟩) (x := 0) ((World.cell?_setCell_other _ ⟨X, 14, none⟩ ⟨X, 13, none⟩ _ (by simp)).trans h0)
  have hnot : ∀ (x : Bool) (w : World), (Op.unary .not (.bool x)).run Try.prog w = .ok (.bool (!x)) w := fun _ _ => rfl
  have CC := Lib.hid C
  have HQ := Lib.hid hQ
  clear C hQ
  go_enter_defers Try.func42, Try.ntmps42
  go_wp2_with (first | (go_at_call 48; refine (lock_free ⟨X, 14, none⟩ _ (by go_simp) (by go_simp)).mono ?_; rintro e w' ⟨rfl, rfl⟩) | (go_at_call 41; go_in))
  refine CC.out.mono ?_
  rintro e w2 ⟨rfl, hq⟩
  obtain ⟨k0, k1, z0, z1⟩ := HQ.out _ hq
  have QQ := Lib.hid hq
  clear hq
  go_wp2_with fail
  refine leaves_cons (f := 50) (args := #[.pointer (some ⟨X, 13, none⟩), .bool true]) (by simp) (by simp [go_sem]) ?_
  refine (store_deferred ⟨X, 13, none⟩ (.int .u32 0) .returning _ k0 z0).mono ?_
  rintro e u' w'' ⟨rfl, rfl, rfl⟩
  refine leaves_cons (f := 49) (args := #[.pointer (some ⟨X, 14, none⟩)]) (by simp [settle]) (by simp [go_sem]) ?_
  refine (unlock_deferred ⟨X, 14, none⟩ _ _ ?_ (by simp [z1])).mono ?_
  · refine (World.cell?_setCell_other _ ⟨X, 13, none⟩ ⟨X, 14, none⟩ _ (by simp)).trans ?_
    rw [World.cell?_drew]
    exact k1
  rintro e u' w'' ⟨rfl, rfl, rfl⟩
  simp [Leaves, settle, results, Try.results42, OncPost]
  exact ⟨_, QQ.out, rfl⟩
set_option maxRecDepth 100000 in
set_option maxHeartbeats 1600000 in
theorem do_first (X : Nat) (Q : World → Prop) (w : World)
    (h0 : w.cell? ⟨X, 13, none⟩ = some (.int .u32 0)) (h1 : w.cell? ⟨X, 14, none⟩ = some (.int .i32 0)) (f1 : w.frozen? ⟨X, 14, none⟩ = false)
    (C : Calls Try.prog 37 #[.pointer (some ⟨X, 0, none⟩)] (w.setCell ⟨X, 14, none⟩ (.int .i32 1)) fun e w' => e = .returned (.tuple #[]) ∧ Q w')
    (hQ : ∀ w', Q w' → w'.cell? ⟨X, 13, none⟩ = some (.int .u32 0) ∧ w'.cell? ⟨X, 14, none⟩ = some (.int .i32 1) ∧ w'.frozen? ⟨X, 13, none⟩ = false ∧ w'.frozen? ⟨X, 14, none⟩ = false) :
    Calls Try.prog 36 #[.pointer (some ⟨X, 13, none⟩), .func (.func 37) #[.pointer (some ⟨X, 0, none⟩)] #[]] w (OncPost X Q) := by
  have S := Lib.hid (slow_any X Q w h0 h1 f1 C hQ)
  have hl := run_call_load (P := Try.prog) Try.func47 (by kernel_rfl) (by kernel_rfl) (by kernel_rfl) .u32 (by kernel_rfl) h0
  have hnot : ∀ (x : Bool) (w : World), (Op.unary .not (.bool x)).run Try.prog w = .ok (.bool (!x)) w := fun _ _ => rfl
  clear C hQ
  go_enter Try.func36, Try.ntmps36
  go_wp2_with (go_at_call 41; go_in)
  refine S.out.mono ?_
  rintro e w' ⟨rfl, h⟩
  have H := Lib.hid h
  clear h
  go_wp2_with fail
  go_end0
  exact ⟨rfl, H.out⟩
theorem do_done (X : Nat) (fv : Value) (w : World) (h0 : w.cell? ⟨X, 13, none⟩ = some (.int .u32 1)) :
    Calls Try.prog 36 #[.pointer (some ⟨X, 13, none⟩), fv] w (RetPost (.tuple #[]) w) := by
  have hl := run_call_load (P := Try.prog) Try.func47 (by kernel_rfl) (by kernel_rfl) (by kernel_rfl) .u32 (by kernel_rfl) h0
  have hnot : ∀ (x : Bool) (w : World), (Op.unary .not (.bool x)).run Try.prog w = .ok (.bool (!x)) w := fun _ _ => rfl
  go_enter Try.func36, Try.ntmps36
  go_wp2
  go_end0
  exact ⟨rfl, Below.refl _ _⟩
theorem iload_any (a : Addr) (x : Int) (w : World) (h0 : w.cell? a = some (.int .i64 x)) :
    Calls Try.prog 34 #[.pointer (some a)] w (RetPost (.int .i64 x) w) := by
  have hl := run_call_load (P := Try.prog) Try.func40 (by kernel_rfl) (by kernel_rfl) (by kernel_rfl) .i64 (by kernel_rfl) h0
  go_enter Try.func34, Try.ntmps34
  go_wp2
  go_ret
  exact ⟨rfl, Below.refl _ _⟩
theorem iadd_one (a : Addr) (w : World) (hc : w.cell? a = some (.int .i64 0)) (hz : w.frozen? a = false) :
    Calls Try.prog 45 #[.pointer (some a), .int .i64 1] w fun e w' => e = .returned (.int .i64 1) ∧ w' = w.setCell a (.int .i64 1) := by
  have hadd := run_call_add (P := Try.prog) Try.func56 (by kernel_rfl) (by kernel_rfl) (by kernel_rfl) .i64 (by kernel_rfl) (y := 1) (s := 1) hc hz (by simp [go_sem]; rfl)
  go_enter Try.func45, Try.ntmps45
  go_wp2
  go_ret
  exact ⟨rfl, rfl⟩
end Go.Proofs.Ytkhdielfnphheaa
