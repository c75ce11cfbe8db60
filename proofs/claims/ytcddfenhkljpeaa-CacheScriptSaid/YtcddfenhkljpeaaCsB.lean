import Derived.Test.YtcddfenhkljpeaaKitA
import Derived.Deep.RegionHeld3
import Derived.Test.YtcddfenhkljpeaaCsA
/- append at a step of a region that draws its order. -/
namespace Go.BK
open Go.RowKit
section
variable {P : Program} {w : World}
theorem step_append_g {ops : Array Oper} {o : Oper} {a : Act} {K : Act → World → Prop} {Q : Exit → Act → World → Prop} {E : Prop} {ok : Value → Prop} (hgd : o.guard = none) (s x : Operand) (t : TypeId)
    (ho : o.op = .call { callee := .builtin .append, args := #[s, x], argTypes := #[t, t] })
    (base : Nat) (e : TypeId) (i : TypeInfo) (z : Value) (size bytes : Nat) (ht : P.underlying t = some (.slice e)) (hi : P.info? e = some i) (hz : i.zero = some z)
    (hsize : i.size = size) (hby : i.bytes = bytes) (hzs : z.cells.size = size) (hsz : 0 < size) (hzok : ∀ u ∈ z.cells.toList, ok u) (hok1 : ∀ u, ok u → u.oneCell' = true)
    {A : Option Addr} {n c : Nat} {xs : List Value} (hs : a.eval s = .slice A n c) (hown : OwnG ok w base e size A n c xs)
    {A2 : Option Addr} {m c2 : Nat} {news : List Value} (hx : a.eval x = .slice A2 m c2) (hr : RdG w size A2 m c2 news) (hnok : ∀ u ∈ news, ok u)
    (hbytes : (n + m) * bytes ≤ 140737488355328) (h63 : n + m ≤ maxLen) (hbase : base ≤ w.heap.size)
    (h : ∀ A' c' w', OwnG ok w' base e size A' (n + m) c' (xs ++ news) → w.grownBy w' (blk A) → (A' = A ∨ A' = some ⟨w.heap.size, 0, none⟩) → K (a.put o.dst (.slice A' (n + m) c')) w') :
    if Region.wanted o (yielded ops a.tmps) = true then Oper.wp P o a w K Q else E := by
  have hw : Region.wanted o (yielded ops a.tmps) = true := by simp [Region.wanted, hgd]
  rw [if_pos hw]
  obtain ⟨A', c', w', hrun, h2, h3, h4⟩ := run_append_g (P := P) base t o.type e i z size bytes ht hi hz hsize hby hzs hsz hzok hok1 hown hr hnok hbytes h63 hbase
  unfold Oper.wp execOp
  simp only [ho, resolve, invoke, builtin, Sem.run_bind, Sem.run_pure, Result.andThen_ok, List.map_toArray, List.map_cons, List.map_nil, hs, hx, hrun]
  exact h A' c' w' h2 h3 h4
end
/-- 'append(s, v)', s the call's own, elements of one cell; where the new one lies. -/
theorem wpList_append_1' {P : Program} {w : World} {ops : Array Oper} {rest : List Oper} {o : Oper} {a : Act} {Q : Exit → Act → World → Prop} {ok : Value → Prop} (hgd : Region.wanted o (yielded ops a.tmps) = true) (s x : Operand) (t : TypeId)
    (ho : o.op = .call { callee := .builtin .append, args := #[s, x], argTypes := #[t, t] })
    (base : Nat) (e : TypeId) (i : TypeInfo) (z : Value) (bytes : Nat) (ht : P.underlying t = some (.slice e)) (hi : P.info? e = some i) (hz : i.zero = some z)
    (hsize : i.size = 1) (hby : i.bytes = bytes) (hzs : z.cells = #[z]) (hzok : ok z) (hok1 : ∀ u, ok u → u.oneCell' = true)
    {A : Option Addr} {n c : Nat} {xs : List Value} (hs : a.eval s = .slice A n c) (hown : OwnG ok w base e 1 A n c xs)
    (v : Value) (hx : a.eval x = .slice (some ⟨w.heap.size, 0, none⟩) 1 1) (hv : ok v)
    (hbytes : (n + 1) * bytes ≤ 140737488355328) (h63 : n + 1 ≤ maxLen) (hbase : base ≤ w.heap.size)
    (h : ∀ A' c' w', OwnG ok w' base e 1 A' (n + 1) c' (xs ++ [v]) → w.grownBy w' (blk A) → Below base w w' → (∀ b, blk A' = some b → blk A = some b ∨ w.heap.size ≤ b) → wpList P ops Q rest (a.put o.dst (.slice A' (n + 1) c')) w') : wpList P ops Q (o :: rest) a (w.alloc (.cells #[v] e)) := by
  refine wpList_append_g hgd s x t ho base e i z 1 bytes ht hi hz hsize hby (by rw [hzs]; rfl) (by decide) (by rw [hzs]; simpa using hzok) hok1 hs (hown.ext (ext_alloc _ _)) hx (RdG.single w v e) (by simpa using hv) hbytes h63 (by simp; omega) ?_
  intro A' c' w' h1 h2 h3
  have hg : w.grownBy w' (blk A) := grown_trans (grown_of_ext (ext_alloc _ _) _) h2
  refine h A' c' w' h1 hg (Below.grown (Below.refl _ _) hg hbase fun g hb => (hown.lt g hb).1) fun b hb => ?_
  rcases h3 with rfl | rfl
  · exact .inl hb
  · simp at hb; exact .inr (by omega)
end Go.BK
/- Lists of texts in memory: the word for those that came in. -/
namespace Go.Proofs.Ytcddfenhkljpeaa
open Go.BK Go.RowKit
set_option linter.unusedVariables false

def tvs (L : List (List UInt8)) : List Value := L.map fun s => Value.string (str s)
theorem tvs_length (L : List (List UInt8)) : (tvs L).length = L.length := by simp [tvs]
theorem tvs_append (K L : List (List UInt8)) : tvs (K ++ L) = tvs K ++ tvs L := by simp [tvs]
/-- A list of texts that came in. -/
def RdT (w : World) (A : Option Addr) (c : Nat) (L : List (List UInt8)) : Prop := RdG w 1 A L.length c (tvs L) ∧ ∀ s ∈ L, s.length ≤ maxLen
def isT (v : Value) : Prop := ∃ s : ByteArray, v = .string s
theorem isT.one {v : Value} (h : isT v) : v.oneCell' = true := by obtain ⟨b, rfl⟩ := h; rfl
theorem isT_tvs (L : List (List UInt8)) : ∀ u ∈ tvs L, isT u := by
  intro u hu; obtain ⟨b, _, rfl⟩ := List.mem_map.1 hu; exact ⟨_, rfl⟩
/-- A text that is not too long to be made longer. -/
def okT (v : Value) : Prop := ∃ s : ByteArray, v = .string s ∧ s.size ≤ 1073741824
theorem okT.one {v : Value} (h : okT v) : v.oneCell' = true := by obtain ⟨b, rfl, _⟩ := h; rfl
theorem info_t : (Try.prog.info? 9).map (fun i => (i.zero, i.size, i.bytes)) = some (some (.string ⟨#[]⟩), 1, 16) := by kernel_rfl
theorem tvs_at {w : World} {A : Option Addr} {c : Nat} {L : List (List UInt8)} (h : RdG w 1 A L.length c (tvs L)) {k : Nat} (hk : k < L.length) : ∃ b o, A = some ⟨b, o, none⟩ ∧ b < w.heap.size ∧ w.cell? ⟨b, o + k, none⟩ = some (.string (str (L.getD k []))) := by
  obtain ⟨b, o, h1, h2, h3⟩ := RdG.at_ h hk
  exact ⟨b, o, h1, h2, by rw [h3]; simp [tvs, hk]⟩
end Go.Proofs.Ytcddfenhkljpeaa
