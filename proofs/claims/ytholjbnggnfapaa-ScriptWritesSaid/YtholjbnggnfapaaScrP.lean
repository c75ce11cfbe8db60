/- Layer 29, plainly: bytes of events, and the laws. -/
import Derived.Test.YtholjbnggnfapaaScrS
namespace Go.BK.SC
set_option linter.unusedVariables false
def byt (y : Int) : UInt8 := UInt8.ofNat (y % 256).toNat
theorem byt_nat (y : Int) : ((byt y).toNat : Int) = y % 256 := by
  unfold byt
  have h0 := Int.emod_nonneg y (show (256 : Int) ≠ 0 by omega)
  have h1 := Int.emod_lt_of_pos y (show (0 : Int) < 256 by omega)
  simp
  omega
/-- The s lowest bytes of x, the highest first. -/
def be (x : Int) : Nat → List UInt8
  | 0 => []
  | s + 1 => byt (x / 256 ^ s) :: be x s
theorem be_len (x : Int) (s : Nat) : (be x s).length = s := by
  induction s with
  | zero => rfl
  | succ s ih => simp [be, ih]
def getF (e : Ev) (f : F) : Int :=
  match f with
  | .who => e.who
  | .port => e.port
  | .conn => e.conn
  | .n => e.n
  | .sort => e.sort
  | .b => e.b.length
def layF (e : Ev) (f : F) : List UInt8 := be (getF e f) f.size ++ (if f = .b then e.b else [])
def fieldsI (k : Int) : List F := if 1 ≤ k ∧ k ≤ 10 then fieldsS k.toNat else []
def layS (e : Ev) : List UInt8 := byt (e.kind - 1) :: (fieldsI e.kind).flatMap (layF e)
def fit (e : Ev) : Prop := e.b.length ≤ 4096 ∧ (evS (layS e)).1 = e
instance (e : Ev) : Decidable (fit e) := by unfold fit; infer_instance
theorem be_rd (x : Int) (s acc : Nat) (r : List UInt8) : (rdA acc s (be x s ++ r) : Int) = acc * 256 ^ s + x % 256 ^ s := by
  induction s generalizing acc with
  | zero => simp [rdA, be, Int.emod_one]
  | succ s ih =>
    rw [be, List.cons_append, rdA]
    simp only [List.headD_cons, List.tail_cons]
    rw [ih, Int.natCast_add, Int.natCast_mul, byt_nat]
    have h : x % 256 ^ (s + 1) = x / 256 ^ s % 256 * 256 ^ s + x % 256 ^ s := by
      have hp : (0 : Int) < 256 ^ s := Int.pow_pos (by omega)
      have h1 := Int.mul_ediv_add_emod x (256 ^ s)
      have h2 := Int.mul_ediv_add_emod (x / 256 ^ s) 256
      have h3 := Int.emod_nonneg x (show (256 : Int) ^ s ≠ 0 by omega)
      have h4 := Int.emod_lt_of_pos x hp
      have h5 := Int.emod_nonneg (x / 256 ^ s) (show (256 : Int) ≠ 0 by omega)
      have h6 := Int.emod_lt_of_pos (x / 256 ^ s) (show (0 : Int) < 256 by omega)
      rw [Int.pow_succ]
      obtain ⟨p, hp'⟩ : ∃ p, (256 : Int) ^ s = p := ⟨_, rfl⟩
      rw [hp'] at h1 h2 h3 h4 h5 h6 hp ⊢
      obtain ⟨q, hq⟩ : ∃ q, x / p = q := ⟨_, rfl⟩
      obtain ⟨r, hr⟩ : ∃ r, x % p = r := ⟨_, rfl⟩
      rw [hq] at h1 h2 h5 h6 ⊢
      rw [hr] at h1 h3 h4 ⊢
      obtain ⟨t, ht⟩ : ∃ t, q / 256 = t := ⟨_, rfl⟩
      obtain ⟨u, hu⟩ : ∃ u, q % 256 = u := ⟨_, rfl⟩
      rw [ht, hu] at h2
      rw [hu] at h5 h6 ⊢
      have e : x = u * p + r + (p * 256) * t := by
        rw [← h1, ← h2, Int.mul_add, Int.mul_assoc, Int.mul_comm p u]
        omega
      rw [e, Int.add_mul_emod_self_left]
      have hm : u * p ≤ 255 * p := Int.mul_le_mul_of_nonneg_right (by omega) (by omega)
      have hn : 0 ≤ u * p := Int.mul_nonneg h5 (by omega)
      exact Int.emod_eq_of_lt (by omega) (by omega)
    rw [h, Int.pow_succ, Int.add_mul, Int.mul_assoc, Int.mul_comm ((256 : Nat) : Int) (256 ^ s), Int.add_assoc]
    rfl
theorem num_be (x : Int) (s : Nat) (r : List UInt8) : (num s (be x s ++ r) : Int) = x % 256 ^ s := by
  have := be_rd x s 0 r
  unfold num
  simpa using this
theorem takeZ_app (b r : List UInt8) : takeZ b.length (b ++ r) = b := by
  induction b with
  | nil => rfl
  | cons x b ih => simp [takeZ, ih]
theorem rdA_app (s acc : Nat) (l r : List UInt8) (h : s ≤ l.length) : rdA acc s (l ++ r) = rdA acc s l := by
  induction s generalizing acc l with
  | zero => rfl
  | succ s ih =>
    cases l with
    | nil => simp at h
    | cons x l =>
      simp only [rdA, List.cons_append, List.headD_cons, List.tail_cons]
      exact ih _ _ (by simpa using h)
theorem takeZ_app_le (s : Nat) (l r : List UInt8) (h : s ≤ l.length) : takeZ s (l ++ r) = takeZ s l := by
  induction s generalizing l with
  | zero => rfl
  | succ s ih =>
    cases l with
    | nil => simp at h
    | cons x l =>
      simp only [takeZ, List.cons_append, List.headD_cons, List.tail_cons]
      rw [ih _ (by simpa using h)]
/-- What is laid is read, whatever is behind it. -/
theorem set_lay (a e : Ev) (f : F) (r : List UInt8) (hb : e.b.length ≤ 4096) : setF a f (layF e f ++ r) = setF a f (layF e f) ∧ restF f (layF e f ++ r) = r := by
  have hl : ∀ (x : Int) (s : Nat) (q : List UInt8), num s (be x s ++ q) = num s (be x s) := fun x s q => rdA_app s 0 _ _ (by rw [be_len]; exact Nat.le_refl _)
  have hd : ∀ (x : Int) (s : Nat) (q : List UInt8), (be x s ++ q).drop s = q := fun x s q => List.drop_left' (be_len x s)
  cases f with
  | b =>
    have h2 : num 2 (be (e.b.length : Int) 2) = e.b.length := by
      have := num_be (e.b.length : Int) 2 []
      rw [List.append_nil] at this
      have e2 : ((e.b.length : Int) % 256 ^ 2) = e.b.length := Int.emod_eq_of_lt (by omega) (by omega)
      omega
    have hd0 : (be (e.b.length : Int) 2 ++ e.b).drop 2 = e.b := hd _ _ _
    have hd1 : (be (e.b.length : Int) 2 ++ (e.b ++ r)).drop 2 = e.b ++ r := hd _ _ _
    have hm : e.b.length % 4097 = e.b.length := Nat.mod_eq_of_lt (by omega)
    simp only [setF, restF, layF, getF, F.size, if_true, List.append_assoc, hl, h2, hm, hd0, hd1, takeZ_app]
    refine ⟨?_, List.drop_left' rfl⟩
    have := takeZ_app e.b []
    rw [List.append_nil] at this
    rw [this]
  | who => exact ⟨by simp [setF, layF, F.size, hl], by have := hd e.who 4 r; simpa [restF, layF, F.size, getF] using this⟩
  | port => exact ⟨by simp [setF, layF, F.size, hl], by have := hd e.port 2 r; simpa [restF, layF, F.size, getF] using this⟩
  | conn => exact ⟨by simp [setF, layF, F.size, hl], by have := hd e.conn 2 r; simpa [restF, layF, F.size, getF] using this⟩
  | n => exact ⟨by simp [setF, layF, F.size, hl], by have := hd e.n 2 r; simpa [restF, layF, F.size, getF] using this⟩
  | sort => exact ⟨by simp [setF, layF, F.size, hl], by have := hd e.sort 1 r; simpa only [restF, layF, F.size, getF, reduceCtorEq, if_false, List.append_nil] using this⟩
theorem reads_lay (e : Ev) (hb : e.b.length ≤ 4096) (fs : List F) (a : Ev) (r : List UInt8) : readFs a fs (fs.flatMap (layF e) ++ r) = ((readFs a fs (fs.flatMap (layF e))).1, r) := by
  induction fs generalizing a with
  | nil => rfl
  | cons f fs ih =>
    rw [List.flatMap_cons, List.append_assoc]
    unfold readFs
    rw [(set_lay a e f _ hb).1, (set_lay a e f _ hb).2, (set_lay a e f _ hb).1, (set_lay a e f _ hb).2]
    exact ih _
theorem set_kind (a : Ev) (f : F) (l : List UInt8) : (setF a f l).kind = a.kind := by cases f <;> rfl
theorem reads_kind (fs : List F) (a : Ev) (l : List UInt8) : (readFs a fs l).1.kind = a.kind := by
  induction fs generalizing a l with
  | nil => rfl
  | cons f fs ih => unfold readFs; rw [ih, set_kind]
theorem ev_kind (l : List UInt8) : (evS l).1.kind = (kindS l : Nat) := by unfold evS; rw [reads_kind]; rfl
theorem kind_range (l : List UInt8) : 1 ≤ kindS l ∧ kindS l ≤ 10 := by unfold kindS; omega
theorem kind_cons (x : UInt8) (l r : List UInt8) : kindS (x :: l) = kindS (x :: r) := by simp [kindS, num, rdA]
/-- What may be is read of its own bytes, and what is behind is left. -/
theorem fit_read {e : Ev} (h : fit e) (r : List UInt8) : evS (layS e ++ r) = (e, r) := by
  obtain ⟨hb, h⟩ := h
  have hk := ev_kind (layS e)
  rw [h] at hk
  have hr := kind_range (layS e)
  have hf : fieldsI e.kind = fieldsS (kindS (layS e)) := by
    unfold fieldsI
    rw [hk, if_pos (by omega)]
    simp
  have e1 : kindS (layS e ++ r) = kindS (layS e) := by unfold layS; exact kind_cons _ _ _
  have e2 : ∀ q, (layS e ++ q).drop 1 = (fieldsS (kindS (layS e))).flatMap (layF e) ++ q := fun q => by
    rw [← hf]
    simp [layS]
  have h0 : (evS (layS e)).1 = (readFs (ev0 (kindS (layS e))) (fieldsS (kindS (layS e))) ((fieldsS (kindS (layS e))).flatMap (layF e))).1 := by
    have := e2 []
    rw [List.append_nil, List.append_nil] at this
    unfold evS
    rw [this]
  rw [h] at h0
  unfold evS
  rw [e1, e2, reads_lay e hb, ← h0]
theorem num_get (s : Nat) (l : List UInt8) (r : List UInt8) : num s (be (num s l : Nat) s ++ r) = num s l := by
  have h := num_be (num s l : Nat) s r
  have h1 := num_lt s l
  have h3 : ((256 ^ s : Nat) : Int) = 256 ^ s := by simp
  have h2 : ((num s l : Nat) : Int) % 256 ^ s = (num s l : Nat) := Int.emod_eq_of_lt (by omega) (by rw [← h3]; omega)
  rw [h2] at h
  omega
theorem be_app (x : Int) (s : Nat) (r : List UInt8) : (be x s ++ r).drop s = r := List.drop_left' (be_len x s)
/-- What is read may be. -/
theorem read_fit (l : List UInt8) : fit (evS l).1 := by
  have hk := ev_kind l
  have hr := kind_range l
  obtain ⟨k, hkk⟩ : ∃ k, kindS l = k := ⟨_, rfl⟩
  rw [hkk] at hk hr
  have hbk : kindS (layS (evS l).1) = k := by
    unfold layS kindS
    simp only [num, rdA, List.headD_cons]
    rw [hk]
    have := byt_nat ((k : Int) - 1)
    have h2 : ((k : Int) - 1) % 256 = k - 1 := Int.emod_eq_of_lt (by omega) (by omega)
    omega
  have hfi : fieldsI (evS l).1.kind = fieldsS k := by
    unfold fieldsI
    rw [hk, if_pos (by omega)]
    simp
  have hll : (layS (evS l).1).drop 1 = (fieldsS k).flatMap (layF (evS l).1) := by rw [← hfi]; simp [layS]
  have hev : (evS l).1 = (readFs (ev0 k) (fieldsS k) (l.drop 1)).1 := by unfold evS; rw [hkk]
  have hlen : (evS l).1.b.length ≤ 4096 := by
    rw [hev]
    unfold fieldsS
    split <;> simp [readFs, setF, ev0, takeZ_len] <;> omega
  refine ⟨hlen, ?_⟩
  obtain ⟨e, he⟩ : ∃ e, (evS l).1 = e := ⟨_, rfl⟩
  have goal : (readFs (ev0 k) (fieldsS k) ((fieldsS k).flatMap (layF e))).1 = e := by
    rw [he] at hev hlen
    have hn := num_get
    have h4 : ∀ x : Nat, (num 1 (be ((x % 4 : Nat) : Int) 1 ++ []) : Int) = (x % 4 : Nat) := fun x => by
      rw [num_be]
      exact Int.emod_eq_of_lt (by omega) (by omega)
    have h5 : ∀ (x : Nat) r, num 1 (be ((x % 4 : Nat) : Int) 1 ++ r) % 4 = x % 4 := fun x r => by
      have := num_be ((x % 4 : Nat) : Int) 1 r
      have h2 : ((x % 4 : Nat) : Int) % 256 ^ 1 = (x % 4 : Nat) := Int.emod_eq_of_lt (by omega) (by omega)
      omega
    have h6 : ∀ (x : Nat) r, num 2 (be ((x % 4097 : Nat) : Int) 2 ++ r) % 4097 = x % 4097 := fun x r => by
      have := num_be ((x % 4097 : Nat) : Int) 2 r
      have h2 : ((x % 4097 : Nat) : Int) % 256 ^ 2 = (x % 4097 : Nat) := Int.emod_eq_of_lt (by omega) (by omega)
      omega
    have h6' : ∀ (x : Nat) r, num 2 (be ((x : Int) % 4097) 2 ++ r) % 4097 = x % 4097 := fun x r => by
      have := h6 x r
      simpa using this
    have h5' : ∀ (x : Nat) r, num 1 (be ((x : Int) % 4) 1 ++ r) % 4 = x % 4 := fun x r => by
      have := h5 x r
      simpa using this
    have h7 : ∀ (n : Nat) (q r : List UInt8), takeZ n (takeZ n q ++ r) = takeZ n q := fun n q r => by
      have := takeZ_app (takeZ n q) r
      rwa [takeZ_len] at this
    have h8 : ∀ (n : Nat) (q : List UInt8), takeZ n (takeZ n q) = takeZ n q := fun n q => by
      have := h7 n q []
      rwa [List.append_nil] at this
    have hn' : ∀ (s : Nat) (l : List UInt8), num s (be (num s l : Nat) s) = num s l := fun s l => by
      have := hn s l []
      rwa [List.append_nil] at this
    have ht : ∀ (x : Int) (r : List UInt8), (be x 1 ++ r).tail = r := fun x r => rfl
    subst hev
    unfold fieldsS
    split <;> simp [readFs, setF, restF, layF, getF, F.size, ev0, takeZ_len, hn, be_app, h5', h6', h7, h8, hn', ht]
  have : (evS (layS e)).1 = (readFs (ev0 k) (fieldsS k) ((fieldsS k).flatMap (layF e))).1 := by
    rw [he] at hbk hll
    unfold evS
    rw [hbk, hll]
  rw [he, this, goal]
end Go.BK.SC
