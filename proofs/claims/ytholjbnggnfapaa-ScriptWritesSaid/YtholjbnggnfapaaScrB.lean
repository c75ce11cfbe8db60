/- Layer 29: the program's fields, number, reader. -/
import Derived.Test.YtholjbnggnfapaaScrA
import Derived.Test.YtholjbnggnfapaaKitM
namespace Go.Proofs.Ytholjbnggnfapaa
open Go.BK Go.BK.SC Go.RowKit
set_option linter.unusedVariables false
section
variable {w w' : World} {ra rb c i : Nat} {A : Option Addr} {b : List UInt8}
/-- The reader's functions. -/
def nxF (ra rb : Nat) : Value := .func (.func 35) #[] #[.pointer (some ⟨ra, 0, none⟩), .pointer (some ⟨rb, 0, none⟩)]
def lfF (ra rb : Nat) : Value := .func (.func 36) #[] #[.pointer (some ⟨ra, 0, none⟩), .pointer (some ⟨rb, 0, none⟩)]
set_option maxHeartbeats 1000000 in
theorem reader_in (h : Rd w A c b) : Calls Try.prog 26 #[.slice A b.length c] w fun e w' => e = .returned (.tuple #[nxF (w.heap.size + 1) w.heap.size, lfF (w.heap.size + 1) w.heap.size]) ∧ Rdr w' (w.heap.size + 1) w.heap.size A c b 0 ∧ Ext w w' := by
  have hn9 := h.n_le
  have H := hid h
  obtain ⟨n, hn⟩ : ∃ n, b.length = n := ⟨_, rfl⟩
  rw [hn] at hn9 ⊢
  have HN := hid hn
  have hmf : ∀ (fn : Fn) (first cap : Array Value) (w : World), (Instr.makeFunc fn first cap).run Try.prog w = .ok (.func fn first cap) w := fun _ _ _ _ => rfl
  clear h hn
  go_enter Try.func26, Try.ntmps26
  go_wp2_with fail
  refine bodyPost_ret (by simp [results, Try.results26, go_sem]; rfl) rfl ?_
  refine ⟨rfl, ⟨(by have := Blk.new (w.alloc (.cells #[.slice A n c] 22)) 3 #[.int .i64 0]; simpa using this), ?_, ?_, Nat.zero_le _, fun h0 e => ?_⟩, ext_trans (ext_alloc _ _) (ext_alloc _ _)⟩
  · have := (Blk.new w 22 #[.slice A n c]).alloc (.cells #[.int .i64 0] 3)
    rw [← HN.out] at this ⊢
    exact this
  · exact (H.out.ext (ext_alloc _ _)).ext (ext_alloc _ _)
  · obtain ⟨b', hb1, hb2⟩ := H.out.lt h0
    rw [hb1] at e
    injection e with e
    omega
/-- The fields' names, and where they stand. -/
def nameF : F → ByteArray
  | .who => ⟨#[119, 104, 111]⟩
  | .port => ⟨#[112, 111, 114, 116]⟩
  | .conn => ⟨#[99, 111, 110, 110]⟩
  | .n => ⟨#[110]⟩
  | .sort => ⟨#[115, 111, 114, 116]⟩
  | .b => ⟨#[98]⟩
def spotF (g : Nat) : F → Value
  | .who => .pointer (some ⟨g, 2, none⟩)
  | .port => .pointer (some ⟨g, 3, none⟩)
  | .conn => .pointer (some ⟨g, 4, none⟩)
  | .n => .pointer (some ⟨g, 5, none⟩)
  | .sort => .pointer (some ⟨g, 1, none⟩)
  | .b => .pointer none
set_option maxHeartbeats 1000000 in
theorem number_in (g : Nat) (f : F) (w : World) : Calls Try.prog 38 #[.pointer (some ⟨g, 0, none⟩), .string (nameF f)] w fun e w' => e = .returned (.tuple #[spotF g f, .int .i64 (f.size : Nat)]) ∧ w = w' := by
  cases f <;> simp only [nameF, spotF, F.size]
  all_goals
    go_enter Try.func38, Try.ntmps38
    go_wp2_with fail
    refine bodyPost_ret (by simp [results, Try.results38, go_sem]; rfl) rfl ?_
    exact ⟨rfl, rfl⟩
end
end Go.Proofs.Ytholjbnggnfapaa
