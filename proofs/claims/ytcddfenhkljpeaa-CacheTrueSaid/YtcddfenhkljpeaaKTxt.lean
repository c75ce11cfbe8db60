/- Lists of texts in memory: the word for those that came in. -/
import Derived.Test.YtcddfenhkljpeaaKBase
import Derived.Test.YtcddfenhkljpeaaKStep
import Derived.Test.YtcddfenhkljpeaaKitU
namespace Go.Proofs.Ytcddfenhkljpeaa
open Go.BK Go.RowKit
set_option linter.unusedVariables false

def tvs (L : List (List UInt8)) : List Value := L.map fun s => Value.string (str s)
theorem tvs_length (L : List (List UInt8)) : (tvs L).length = L.length := by simp [tvs]
theorem tvs_append (K L : List (List UInt8)) : tvs (K ++ L) = tvs K ++ tvs L := by simp [tvs]
/-- A list of texts that came in. -/
def RdT (w : World) (A : Option Addr) (c : Nat) (L : List (List UInt8)) : Prop := RdG w 1 A L.length c (tvs L) ∧ ∀ s ∈ L, s.length ≤ maxLen
def isT (v : Value) : Prop := ∃ s : ByteArray, v = .string s
theorem isT.one {v : Value} (h : isT v) : v.oneCell' = true := by obtain ⟨b, rfl⟩ := h; rfl
theorem isT_tvs (L : List (List UInt8)) : ∀ u ∈ tvs L, isT u := by
  intro u hu; obtain ⟨b, _, rfl⟩ := List.mem_map.1 hu; exact ⟨_, rfl⟩
/-- A text that is not too long to be made longer. -/
def okT (v : Value) : Prop := ∃ s : ByteArray, v = .string s ∧ s.size ≤ 1073741824
theorem okT.one {v : Value} (h : okT v) : v.oneCell' = true := by obtain ⟨b, rfl, _⟩ := h; rfl
theorem info_t : (Try.prog.info? 9).map (fun i => (i.zero, i.size, i.bytes)) = some (some (.string ⟨#[]⟩), 1, 16) := by kernel_rfl
theorem tvs_at {w : World} {A : Option Addr} {c : Nat} {L : List (List UInt8)} (h : RdG w 1 A L.length c (tvs L)) {k : Nat} (hk : k < L.length) : ∃ b o, A = some ⟨b, o, none⟩ ∧ b < w.heap.size ∧ w.cell? ⟨b, o + k, none⟩ = some (.string (str (L.getD k []))) := by
  obtain ⟨b, o, h1, h2, h3⟩ := RdG.at_ h hk
  exact ⟨b, o, h1, h2, by rw [h3]; simp [tvs, hk]⟩
end Go.Proofs.Ytcddfenhkljpeaa
