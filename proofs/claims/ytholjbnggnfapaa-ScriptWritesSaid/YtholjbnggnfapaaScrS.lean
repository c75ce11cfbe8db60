/- Layer 29, plainly: numbers of bytes, events of bytes. -/
import Derived.Test.YtholjbnggnfapaaKitA
namespace Go.BK.SC
set_option linter.unusedVariables false
/-- so many bytes ahead of l as a number behind acc; missing ones are 0. -/
def rdA (acc : Nat) : Nat → List UInt8 → Nat
  | 0, _ => acc
  | s + 1, l => rdA (acc * 256 + (l.headD 0).toNat) s l.tail
def num (s : Nat) (l : List UInt8) : Nat := rdA 0 s l
theorem rdA_lt (s acc : Nat) (l : List UInt8) : rdA acc s l < (acc + 1) * 256 ^ s := by
  induction s generalizing acc l with
  | zero => simp [rdA]
  | succ s ih =>
    unfold rdA
    have h := ih (acc * 256 + (l.headD 0).toNat) l.tail
    have hb : (l.headD 0).toNat < 256 := UInt8.toNat_lt _
    have h2 : (acc * 256 + (l.headD 0).toNat + 1) * 256 ^ s ≤ ((acc + 1) * 256) * 256 ^ s := Nat.mul_le_mul_right _ (by omega)
    rw [Nat.pow_succ, Nat.mul_comm (256 ^ s) 256, ← Nat.mul_assoc]
    omega
theorem num_lt (s : Nat) (l : List UInt8) : num s l < 256 ^ s := by
  have := rdA_lt s 0 l
  unfold num
  simpa using this
theorem rdA_succ (s acc : Nat) (l : List UInt8) : rdA acc (s + 1) l = rdA acc s l * 256 + ((l.drop s).headD 0).toNat := by
  induction s generalizing acc l with
  | zero => simp [rdA]
  | succ s ih =>
    rw [rdA, ih]
    conv => rhs; rw [rdA]
    simp [List.drop_tail]
theorem num_succ (s : Nat) (l : List UInt8) : num (s + 1) l = num s l * 256 + ((l.drop s).headD 0).toNat := rdA_succ s 0 l
/-- The first so many bytes, 0 where there is none. -/
def takeZ : Nat → List UInt8 → List UInt8
  | 0, _ => []
  | s + 1, l => l.headD 0 :: takeZ s l.tail
theorem takeZ_len (s : Nat) (l : List UInt8) : (takeZ s l).length = s := by
  induction s generalizing l with
  | zero => rfl
  | succ s ih => simp [takeZ, ih]
theorem takeZ_succ (s : Nat) (l : List UInt8) : takeZ (s + 1) l = takeZ s l ++ [(l.drop s).headD 0] := by
  induction s generalizing l with
  | zero => rfl
  | succ s ih =>
    rw [takeZ, ih]
    simp [takeZ, List.drop_tail]
structure Ev where
  kind : Int
  sort : Int
  who : Int
  port : Int
  conn : Int
  n : Int
  b : List UInt8
deriving DecidableEq
inductive F where
  | who | port | conn | n | sort | b
deriving DecidableEq
def F.size : F → Nat
  | .who => 4
  | .sort => 1
  | _ => 2
/-- The fields of each kind. -/
def fieldsS (k : Nat) : List F :=
  match k with
  | 1 => [.who, .port, .b]
  | 8 => [.who, .port, .b]
  | 2 => [.sort, .who]
  | 3 => [.conn, .b]
  | 4 => [.conn]
  | 5 => [.conn, .n]
  | 6 => [.n]
  | 7 => [.n]
  | 9 => [.n, .b]
  | _ => []
def setF (e : Ev) (f : F) (l : List UInt8) : Ev :=
  let x := num f.size l
  match f with
  | .who => { e with who := x }
  | .port => { e with port := x }
  | .conn => { e with conn := x }
  | .n => { e with n := x }
  | .sort => { e with sort := (x % 4 : Nat) }
  | .b => { e with b := takeZ (x % 4097) (l.drop 2) }
def restF (f : F) (l : List UInt8) : List UInt8 :=
  match f with
  | .b => (l.drop 2).drop (num 2 l % 4097)
  | f => l.drop f.size
def readFs : Ev → List F → List UInt8 → Ev × List UInt8
  | e, [], l => (e, l)
  | e, f :: fs, l => readFs (setF e f l) fs (restF f l)
def kindS (l : List UInt8) : Nat := num 1 l % 10 + 1
def ev0 (k : Int) : Ev := ⟨k, 0, 0, 0, 0, 0, []⟩
def evS (l : List UInt8) : Ev × List UInt8 := readFs (ev0 (kindS l)) (fieldsS (kindS l)) (l.drop 1)
def eventsS : Nat → List UInt8 → List Ev
  | 0, _ => []
  | _ + 1, [] => []
  | f + 1, x :: l => (evS (x :: l)).1 :: eventsS f (evS (x :: l)).2
end Go.BK.SC
