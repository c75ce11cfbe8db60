/- Layer 11: Decode. -/
import Derived.Test.YtgcdpkjohaplcaaBasS
import Derived.Outline
namespace Go.Proofs.Ytgcdpkjohaplcaa
open Go.BK Go.RowKit
set_option linter.unusedVariables false
def digs (l : List UInt8) : List Nat := l.map BM.numN
def badAt (l : List UInt8) : Nat := l.findIdx (fun c => BM.numN c == 255)
/-- Decode: the bytes, the error, its place. -/
def decR (l : List UInt8) : List UInt8 × Int × Int :=
  if badAt l < l.length then ([], 4, (badAt l : Int))
  else if l.length % 4 = 1 then ([], 4, (l.length : Int))
  else if (BM.decS 0 0 (digs l)).2.2 ≠ 0 then ([], 4, (l.length : Int) - 1)
  else ((BM.decS 0 0 (digs l)).1, 0, 0)
def OkTo (l : List UInt8) (k : Nat) : Prop := ∀ j c, j < k → l[j]? = some c → BM.numN c < 64
theorem okTo_succ {l : List UInt8} {k : Nat} {x : UInt8} (h : OkTo l k) (hx : l[k]? = some x) (hn : BM.numN x < 64) : OkTo l (k + 1) := by
  intro j c hj hc
  rcases Nat.lt_or_ge j k with h1 | h1
  · exact h j c h1 hc
  · obtain rfl : j = k := by omega
    rw [hx] at hc; injection hc with hc; subst hc; exact hn
theorem badAt_no {l : List UInt8} (h : OkTo l l.length) : ¬ badAt l < l.length := by
  intro hb
  have h1 := List.findIdx_getElem (xs := l) (p := fun c => BM.numN c == 255) (w := hb)
  have h2 := h _ _ hb (List.getElem?_eq_getElem hb)
  simp only [beq_iff_eq] at h1
  unfold badAt at h2
  omega
theorem decR_bad {l : List UInt8} {k : Nat} {x : UInt8} (h : OkTo l k) (hx : l[k]? = some x) (hn : BM.numN x = 255) : decR l = ([], 4, (k : Int)) := by
  have hk : k < l.length := by
    rcases Nat.lt_or_ge k l.length with h | h
    · exact h
    · rw [List.getElem?_eq_none h] at hx; cases hx
  have hb : badAt l = k := by
    unfold badAt
    rw [List.findIdx_eq hk]
    refine ⟨?_, ?_⟩
    · rw [List.getElem?_eq_getElem hk] at hx; injection hx with hx; simp [hx, hn]
    · intro j hj
      have := h j _ hj (List.getElem?_eq_getElem (by omega))
      simp; omega
  unfold decR
  rw [hb, if_pos hk]
theorem digs_drop {l : List UInt8} {k : Nat} {x : UInt8} (hx : l[k]? = some x) : (digs l).drop k = BM.numN x :: (digs l).drop (k + 1) := by
  have hk : k < l.length := by
    rcases Nat.lt_or_ge k l.length with h | h
    · exact h
    · rw [List.getElem?_eq_none h] at hx; cases hx
  rw [List.drop_eq_getElem_cons (by simpa [digs] using hk)]
  congr 1
  rw [List.getElem?_eq_getElem hk] at hx; injection hx with hx
  simp [digs, hx]

/-- The world within Decode. -/
def DecW (w wr : World) (ta n cnt : Nat) (A : Option Addr) (c : Nat) (O : List UInt8) : Prop :=
  Blk wr w.heap.size 26 #[.int .i64 0, .int .i64 0] ∧ Blk wr ta 39 (tabZ (tabB 64)) ∧ Blk wr (ta + 1) 42 #[.int .i64 n, .int .i64 cnt] ∧
  Own wr (ta + 2) 5 A c O ∧ Below w.heap.size w wr ∧ ta + 2 ≤ wr.heap.size ∧ w.heap.size < ta
section
variable {w wr : World} {ta n cnt : Nat} {A : Option Addr} {c : Nat} {O : List UInt8}
theorem DecW.cells (h : DecW w wr ta n cnt A c O) : wr.cell? ⟨ta + 1, 0, none⟩ = some (.int .i64 n) ∧ wr.cell? ⟨ta + 1, 1, none⟩ = some (.int .i64 cnt) := ⟨h.2.2.1.two.1, h.2.2.1.two.2.1⟩
theorem DecW.fault (h : DecW w wr ta n cnt A c O) : wr.cell? ⟨w.heap.size, 0, none⟩ = some (.int .i64 0) ∧ wr.cell? ⟨w.heap.size, 1, none⟩ = some (.int .i64 0) ∧ ∀ i, wr.frozen? ⟨w.heap.size, i, none⟩ = false := h.1.two
theorem DecW.tab (h : DecW w wr ta n cnt A c O) (x : UInt8) : wr.cell? ⟨ta, x.toNat, none⟩ = some (.int .u8 (BM.numN x)) := by
  have hx := x.toNat_lt
  rw [h.2.1.cell, tabZ_get _ _ (by rw [tabB_len]; omega), tabB_end, BM.u8_of]
  have := BM.num_ok x
  omega
theorem DecW.bits {w' : World} {n' cnt' : Nat} (h : DecW w wr ta n cnt A c O) (hb : Blk w' (ta + 1) 42 #[.int .i64 n', .int .i64 cnt']) (hs : Shy (fun k => k = ta + 1) wr w') : DecW w w' ta n' cnt' A c O := by
  obtain ⟨h1, h2, h3, h4, h5, h6, h7⟩ := h
  exact ⟨(hs.block _ h1.lt (by omega)).trans h1, (hs.block _ h2.lt (by omega)).trans h2, hb, hs.ownG h4 (fun k hk => by have := (h4.lt k hk).1; omega), Below.trans h5 (hs.below h5.size fun k hk => by omega), Nat.le_trans h6 hs.size, h7⟩
theorem dec_put (x k N C : Nat) (h : DecW w wr ta n cnt A c O) (hn : n < 65536) (hx : x < 2 ^ k) (hc : cnt ≤ 100) (hk : k = 8 ∨ k = 6 ∨ k = 4 ∨ k = 2) (hN : n * 2 ^ k + x = N) (hC : cnt + k = C) :
    Calls Try.prog 22 #[.pointer (some ⟨ta + 1, 0, none⟩), .int .i64 x, .int .i64 k] wr fun e w' => e = .returned (.tuple #[]) ∧ DecW w w' ta N C A c O := by
  subst hN; subst hC
  refine (put_any _ n cnt x k wr h.2.2.1 hn hx hc hk).mono ?_
  rintro e w' ⟨rfl, hb, hs⟩
  exact ⟨rfl, h.bits hb hs⟩
theorem dec_get {C : Nat} (m k v r : Nat) (h : DecW w wr ta n C A c O) (hn : n < 16777216) (hm : m = 0 ∨ m = 2 ∨ m = 4 ∨ m = 6) (hk : k = 8 ∨ k = 6) (hC : C = m + k) (hv : n / 2 ^ m = v) (hr : n % 2 ^ m = r) :
    Calls Try.prog 23 #[.pointer (some ⟨ta + 1, 0, none⟩), .int .i64 k] wr fun e w' => e = .returned (.int .i64 v) ∧ DecW w w' ta r m A c O := by
  subst hv; subst hr; subst hC
  refine (get_any _ n m k wr h.2.2.1 hn hm hk).mono ?_
  rintro e w' ⟨rfl, hb, hs⟩
  exact ⟨rfl, h.bits hb hs⟩
theorem DecW.app {A' : Option Addr} {c' : Nat} {w' : World} {v : Nat} (h : DecW w wr ta n cnt A c O) (hv : v < 256) (ho : OwnG isU8 w' (ta + 2) 5 1 A' (O.length + 1) c' (O.map u8v ++ [.int .u8 v])) (hg : wr.grownBy w' (blk A)) : DecW w w' ta n cnt A' c' (O ++ [UInt8.ofNat v]) := by
  obtain ⟨h1, h2, h3, h4, h5, h6, h7⟩ := h
  have hs := shy_of_grown hg
  have hu : ∀ k, k < ta + 2 → ¬ blk A = some k := fun k hk e => by have := (h4.lt k e).1; omega
  refine ⟨(hs.block _ h1.lt (hu _ (by omega))).trans h1, (hs.block _ h2.lt (hu _ (by omega))).trans h2, (hs.block _ h3.lt (hu _ (by omega))).trans h3, ?_, Below.trans h5 (hs.below h5.size fun k hk => hu k (by omega)), Nat.le_trans h6 hs.size, h7⟩
  unfold Own
  rw [List.map_append, List.length_append]
  rw [show [UInt8.ofNat v].map u8v = [.int .u8 (v : Int)] from by simp [BM.u8_of v hv]]
  exact ho
end
theorem two_set {w : World} {g : Nat} {t : TypeId} {a b : Value} (h : Blk w g t #[a, b]) (x y : Value) : ((w.setCell ⟨g, 0, none⟩ x).setCell ⟨g, 1, none⟩ y).cell? ⟨g, 0, none⟩ = some x ∧ ((w.setCell ⟨g, 0, none⟩ x).setCell ⟨g, 1, none⟩ y).cell? ⟨g, 1, none⟩ = some y :=
  ⟨((h.set_ 0 x).set_ 1 y).cell 0, ((h.set_ 0 x).set_ 1 y).cell 1⟩
theorem size_setCells (b : Nat) : ∀ (vs : List Value) (o : Nat) (w : World), (w.setCells b o vs).heap.size = w.heap.size
  | [], _, _ => rfl
  | v :: r, o, w => by
    show ((w.setCell ⟨b, o, none⟩ v).setCells b (o + 1) r).heap.size = _
    rw [size_setCells b r]; simp [World.setCell]
set_option maxHeartbeats 2000000 in
set_option maxRecDepth 100000 in
theorem decode_any (l : List UInt8) (w : World) (hl : l.length ≤ 10000000) :
    Calls Try.prog 8 #[.string (str l)] w fun e w' => ∃ A c, e = .returned (.tuple #[.slice A (decR l).1.length c, .agg #[.int .i64 (decR l).2.1, .int .i64 (decR l).2.2]]) ∧ Own w' w.heap.size 5 A c (decR l).1 ∧ Below w.heap.size w w' := by
  have z1 := zero_tab
  obtain ⟨R, hR⟩ : ∃ R, decR l = R := ⟨_, rfl⟩
  rw [hR]
  have HR := hid hR
  clear hR
  obtain ⟨s, hs⟩ : ∃ s, s = str l := ⟨_, rfl⟩
  have hsz : s.size = l.length := by rw [hs, str_size]
  have hget : ∀ k (h : k < s.size), l[k]? = some (s[k]'h) := by
    subst hs
    intro k h
    have h' : k < l.length := by rw [← hsz]; exact h
    rw [List.getElem?_eq_getElem h']
    rfl
  rw [← hs]
  have HS := hid hsz
  have hsl : s.size ≤ 10000000 := by omega
  have HG := hid hget
  clear hs hsz hget
  go_enter Try.func8, Try.ntmps8
  go_wp2_with fail
  refine (numbers_any _).mono ?_
  rintro e w1 ⟨rfl, x1⟩
  have hz1 : w.heap.size < w1.heap.size := by have := x1.size; simp at this; omega
  have K0 := hid ((Blk.new w 26 #[.int .i64 0, .int .i64 0]).ext x1)
  have KT := Blk.new w1 39 (tabZ (tabA 0))
  have hth := hid (blk_there KT (tabZ (tabB 64)).size (by rw [tabZ_size, tabZ_size, tabB_len, tabA_len (by omega)]; exact Nat.le_refl _))
  have K2 := hid (blk_setAll KT (tabZ (tabB 64)).toList (by rw [Array.length_toList, tabZ_size, tabZ_size, tabB_len, tabA_len (by omega)]))
  have bs := hid ((shy_setCells w1.heap.size (tabZ (tabB 64)).toList 0 (w1.alloc (.cells (tabZ (tabA 0)) 39))).below (B := w1.heap.size) (by simp) (fun k hk => by omega))
  have bw := hid (Below.trans ((Below.refl _ _).alloc (Nat.le_refl _) _ : Below w.heap.size w (w.alloc (.cells #[.int .i64 0, .int .i64 0] 26))) (x1.mono (by simp)))
  have hs6 : ((w1.alloc (.cells (tabZ (tabA 0)) 39)).setCells w1.heap.size 0 (tabZ (tabB 64)).toList).heap.size = w1.heap.size + 1 := by rw [size_setCells]; simp
  clear KT
  go_wp2_with ((with_reducible show wpList _ _ _ (⟨none, _, _, _, _, _⟩ :: _) _ _); refine wpList_store_mid rfl 39 (.tmp 4) (.tmp 11) rfl w1.heap.size 0 (tabZ (tabB 64)) (by rfl) (by rfl) hth.out (by rw [tabZ_size, tabB_len]; kernel_rfl) (tab_one _) ?_)
  have HD : DecW w (((w1.alloc (.cells (tabZ (tabA 0)) 39)).setCells w1.heap.size 0 (tabZ (tabB 64)).toList).alloc (.cells #[.int .i64 0, .int .i64 0] 42)) w1.heap.size 0 0 none 0 [] := by
    refine ⟨Blk.alloc ?_ _, Blk.alloc (by simpa using K2.out) _, ?_, Own.nil _ _ _, (Below.trans bw.out (Below.trans ((Below.refl _ _).alloc (by omega) _) (bs.out.mono (by omega)))).alloc (by rw [hs6]; omega) _, by simp [hs6], hz1⟩
    · exact (Below.block ((Below.refl _ _).alloc (Nat.le_refl _) _ |>.trans bs.out) _ hz1).trans K0.out
    · have := Blk.new ((w1.alloc (.cells (tabZ (tabA 0)) 39)).setCells w1.heap.size 0 (tabZ (tabB 64)).toList) 42 #[.int .i64 0, .int .i64 0]
      rwa [hs6] at this
  have HD := hid HD
  clear K0 K2 bs bw hth hs6 x1
  generalize w1.heap.size = ta at HD hz1 ⊢
  go_loopw [5, 14] (fun out i wr => ∃ (k n cnt c : Nat) (A : Option Addr) (O : List UInt8), k ≤ s.size ∧ i = .int .i64 k ∧ out = .slice A O.length c ∧ (cnt = 0 ∨ cnt = 2 ∨ cnt = 4 ∨ cnt = 6) ∧ n < 2 ^ cnt ∧ DecW w wr ta n cnt A c O ∧ OkTo l k ∧ BM.decS 0 0 (digs l) = (O ++ (BM.decS cnt n ((digs l).drop k)).1, (BM.decS cnt n ((digs l).drop k)).2) ∧ O.length ≤ k) (fun _ i _ => s.size - (intOf i).toNat)
  case atStart => exact ⟨0, 0, 0, 0, none, [], Nat.zero_le _, rfl, rfl, .inl rfl, by decide, HD.out, fun j c hj _ => by omega, rfl, Nat.le_refl _⟩
  case round =>
    obtain ⟨i0, hi, hz0, hz1', hz2⟩ := info_parts info_b8
    obtain ⟨k, n, cnt, c, A, O, hk, rfl, rfl, hcnt, hn, hW, hok, hO, hOk⟩ := hrel
    have HO := hid hO
    have W0 := hid hW
    have OK := hid hok
    clear HD hO hW hok
    by_cases hlt : k < s.size
    · obtain ⟨x, hx⟩ : ∃ x, s[k]'hlt = x := ⟨_, rfl⟩
      have hlx : l[k]? = some x := by rw [HG.out k hlt, hx]
      have ct := W0.out.tab x
      have hxl := x.toNat_lt
      obtain ⟨d, hd⟩ : ∃ d, BM.numN x = d := ⟨_, rfl⟩
      rw [hd] at ct
      obtain ⟨f0, f1, ff⟩ := W0.out.fault
      rcases BM.num_ok x with hn64 | hn64
      · have hd64 : d < 64 := by omega
        have hq : ((d : Int) == 255) = false := by simp; omega
        have hOK2 := hid (okTo_succ OK.out hlx hn64.1)
        have hdr := hid (digs_drop hlx)
        obtain ⟨N, hN⟩ : ∃ N, n * 2 ^ 6 + d = N := ⟨_, rfl⟩
        have HDd := hid hd
        clear hlx hd hn64
        rcases hcnt with rfl | rfl | rfl | rfl
        · have hN2 : N < 64 := by omega
          have hS : BM.decS 0 0 (digs l) = (O ++ (BM.decS 6 N ((digs l).drop (k + 1))).1, (BM.decS 6 N ((digs l).drop (k + 1))).2) := by
            rw [HO.out, hdr.out, HDd.out]
            have : N = d := by omega
            simp [BM.decS, this]
          have HS2 := hid hS
          have HN := hid hN
          have C1 := hid (fun W (E : DecW w W ta n 0 A c O) => dec_put d 6 N 6 E (by omega) (by omega) (by omega) (.inr (.inl rfl)) HN.out rfl)
          clear hS hN hn
          go_wp2_with fail
          refine (C1.out _ W0.out).mono ?_
          rintro e w2 ⟨rfl, E1⟩
          obtain ⟨_, c1⟩ := E1.cells
          have E1 := hid E1
          clear W0 ct f0 f1 ff
          go_wp2_with fail
          go_roundw
          case rel => exact ⟨k + 1, N, 6, c, A, O, by omega, by go_num, rfl, .inr (.inr (.inr rfl)), by omega, E1.out, hOK2.out, HS2.out, by omega⟩
          case measure => simp [intOf]; omega
        · have hN2 : N < 256 := by omega
          obtain ⟨v, hv⟩ : ∃ v, N / 2 ^ 0 = v := ⟨_, rfl⟩
          obtain ⟨r, hr⟩ : ∃ v, N % 2 ^ 0 = v := ⟨_, rfl⟩
          have hvl : v < 256 := by omega
          have hrl : r < 1 := by omega
          have hS : BM.decS 0 0 (digs l) = ((O ++ [UInt8.ofNat v]) ++ (BM.decS 0 r ((digs l).drop (k + 1))).1, (BM.decS 0 r ((digs l).drop (k + 1))).2) := by
            rw [HO.out, hdr.out, HDd.out]
            have e : n * 64 + d = N := by omega
            have e1 : N / 1 = v := hv
            have e2 : N % 1 = r := hr
            simp only [BM.decS, e, List.append_assoc, List.singleton_append]
            rw [if_neg (by decide)]
            simp only [Nat.reduceSub, Nat.reducePow, e1, e2]
          have HS2 := hid hS
          have HN := hid hN
          have HV := hid hv
          have HR := hid hr
          have C1 := hid (fun W (E : DecW w W ta n 2 A c O) => dec_put d 6 N 8 E (by omega) (by omega) (by omega) (.inr (.inl rfl)) HN.out rfl)
          have C2 := hid (fun W (E : DecW w W ta N 8 A c O) => dec_get 0 8 v r E (by omega) (.inl rfl) (.inl rfl) rfl HV.out HR.out)
          clear hS hN hv hr hn
          go_wp2_with fail
          refine (C1.out _ W0.out).mono ?_
          rintro e w2 ⟨rfl, E1⟩
          obtain ⟨_, c1⟩ := E1.cells
          have E1 := hid E1
          clear W0 ct f0 f1 ff
          go_wp2_with fail
          refine (C2.out _ E1.out).mono ?_
          rintro e w3 ⟨rfl, E2⟩
          have ow := E2.2.2.2.1
          have hsz := E2.2.2.2.2.2.1
          have E2 := hid E2
          clear E1 c1
          go_wp2_with (at_builtin; go_must (refine wpList_append_1 rfl (.tmp 32) (.tmp 35) 22 rfl (ta + 2) 5 i0 (.int .u8 0) 1 Try.underlying22 hi hz0 hz1' hz2 rfl ⟨0, rfl⟩ (fun _ h => h.one) rfl ow (.int .u8 v) (by rfl) ⟨UInt8.ofNat v, by simp [BM.u8_of v hvl]⟩ (by omega) (by unfold maxLen; omega) hsz ?_); intro A5 c5 w5 o5 g5 x5; have E3 := hid (E2.out.app hvl o5 g5); clear o5 g5 x5 ow E2 hsz)
          go_roundw
          case rel => exact ⟨k + 1, r, 0, c5, A5, O ++ [UInt8.ofNat v], by omega, by go_num, by simp, .inl rfl, by omega, E3.out, hOK2.out, HS2.out, by simp; omega⟩
          case measure => simp [intOf]; omega
        · have hN2 : N < 1024 := by omega
          obtain ⟨v, hv⟩ : ∃ v, N / 2 ^ 2 = v := ⟨_, rfl⟩
          obtain ⟨r, hr⟩ : ∃ v, N % 2 ^ 2 = v := ⟨_, rfl⟩
          have hvl : v < 256 := by omega
          have hrl : r < 4 := by omega
          have hS : BM.decS 0 0 (digs l) = ((O ++ [UInt8.ofNat v]) ++ (BM.decS 2 r ((digs l).drop (k + 1))).1, (BM.decS 2 r ((digs l).drop (k + 1))).2) := by
            rw [HO.out, hdr.out, HDd.out]
            have e : n * 64 + d = N := by omega
            have e1 : N / 4 = v := hv
            have e2 : N % 4 = r := hr
            simp only [BM.decS, e, List.append_assoc, List.singleton_append]
            rw [if_neg (by decide)]
            simp only [Nat.reduceSub, Nat.reducePow, e1, e2]
          have HS2 := hid hS
          have HN := hid hN
          have HV := hid hv
          have HR := hid hr
          have C1 := hid (fun W (E : DecW w W ta n 4 A c O) => dec_put d 6 N 10 E (by omega) (by omega) (by omega) (.inr (.inl rfl)) HN.out rfl)
          have C2 := hid (fun W (E : DecW w W ta N 10 A c O) => dec_get 2 8 v r E (by omega) (.inr (.inl rfl)) (.inl rfl) rfl HV.out HR.out)
          clear hS hN hv hr hn
          go_wp2_with fail
          refine (C1.out _ W0.out).mono ?_
          rintro e w2 ⟨rfl, E1⟩
          obtain ⟨_, c1⟩ := E1.cells
          have E1 := hid E1
          clear W0 ct f0 f1 ff
          go_wp2_with fail
          refine (C2.out _ E1.out).mono ?_
          rintro e w3 ⟨rfl, E2⟩
          have ow := E2.2.2.2.1
          have hsz := E2.2.2.2.2.2.1
          have E2 := hid E2
          clear E1 c1
          go_wp2_with (at_builtin; go_must (refine wpList_append_1 rfl (.tmp 32) (.tmp 35) 22 rfl (ta + 2) 5 i0 (.int .u8 0) 1 Try.underlying22 hi hz0 hz1' hz2 rfl ⟨0, rfl⟩ (fun _ h => h.one) rfl ow (.int .u8 v) (by rfl) ⟨UInt8.ofNat v, by simp [BM.u8_of v hvl]⟩ (by omega) (by unfold maxLen; omega) hsz ?_); intro A5 c5 w5 o5 g5 x5; have E3 := hid (E2.out.app hvl o5 g5); clear o5 g5 x5 ow E2 hsz)
          go_roundw
          case rel => exact ⟨k + 1, r, 2, c5, A5, O ++ [UInt8.ofNat v], by omega, by go_num, by simp, .inr (.inl rfl), by omega, E3.out, hOK2.out, HS2.out, by simp; omega⟩
          case measure => simp [intOf]; omega
        · have hN2 : N < 4096 := by omega
          obtain ⟨v, hv⟩ : ∃ v, N / 2 ^ 4 = v := ⟨_, rfl⟩
          obtain ⟨r, hr⟩ : ∃ v, N % 2 ^ 4 = v := ⟨_, rfl⟩
          have hvl : v < 256 := by omega
          have hrl : r < 16 := by omega
          have hS : BM.decS 0 0 (digs l) = ((O ++ [UInt8.ofNat v]) ++ (BM.decS 4 r ((digs l).drop (k + 1))).1, (BM.decS 4 r ((digs l).drop (k + 1))).2) := by
            rw [HO.out, hdr.out, HDd.out]
            have e : n * 64 + d = N := by omega
            have e1 : N / 16 = v := hv
            have e2 : N % 16 = r := hr
            simp only [BM.decS, e, List.append_assoc, List.singleton_append]
            rw [if_neg (by decide)]
            simp only [Nat.reduceSub, Nat.reducePow, e1, e2]
          have HS2 := hid hS
          have HN := hid hN
          have HV := hid hv
          have HR := hid hr
          have C1 := hid (fun W (E : DecW w W ta n 6 A c O) => dec_put d 6 N 12 E (by omega) (by omega) (by omega) (.inr (.inl rfl)) HN.out rfl)
          have C2 := hid (fun W (E : DecW w W ta N 12 A c O) => dec_get 4 8 v r E (by omega) (.inr (.inr (.inl rfl))) (.inl rfl) rfl HV.out HR.out)
          clear hS hN hv hr hn
          go_wp2_with fail
          refine (C1.out _ W0.out).mono ?_
          rintro e w2 ⟨rfl, E1⟩
          obtain ⟨_, c1⟩ := E1.cells
          have E1 := hid E1
          clear W0 ct f0 f1 ff
          go_wp2_with fail
          refine (C2.out _ E1.out).mono ?_
          rintro e w3 ⟨rfl, E2⟩
          have ow := E2.2.2.2.1
          have hsz := E2.2.2.2.2.2.1
          have E2 := hid E2
          clear E1 c1
          go_wp2_with (at_builtin; go_must (refine wpList_append_1 rfl (.tmp 32) (.tmp 35) 22 rfl (ta + 2) 5 i0 (.int .u8 0) 1 Try.underlying22 hi hz0 hz1' hz2 rfl ⟨0, rfl⟩ (fun _ h => h.one) rfl ow (.int .u8 v) (by rfl) ⟨UInt8.ofNat v, by simp [BM.u8_of v hvl]⟩ (by omega) (by unfold maxLen; omega) hsz ?_); intro A5 c5 w5 o5 g5 x5; have E3 := hid (E2.out.app hvl o5 g5); clear o5 g5 x5 ow E2 hsz)
          go_roundw
          case rel => exact ⟨k + 1, r, 4, c5, A5, O ++ [UInt8.ofNat v], by omega, by go_num, by simp, .inr (.inr (.inl rfl)), by omega, E3.out, hOK2.out, HS2.out, by simp; omega⟩
          case measure => simp [intOf]; omega
      · obtain rfl : d = 255 := by omega
        have hq : ((255 : Int) == 255) = true := by rfl
        have hRb := decR_bad OK.out hlx hn64
        rw [HR.out] at hRb
        subst hRb
        clear hlx hd hn64 hq
        go_wp2_with fail
        obtain ⟨q1, q2⟩ := two_set W0.out.1 (.int .i64 4) (.int .i64 k)
        refine bodyPost_ret (by simp [results, Try.results8, go_sem, q1, q2]; rfl) rfl ?_
        exact ⟨none, 0, rfl, Own.nil _ _ _, (W0.out.2.2.2.2.1.setCell (p := ⟨w.heap.size, 0, none⟩) (Nat.le_refl _) _).setCell (p := ⟨w.heap.size, 1, none⟩) (Nat.le_refl _) _⟩
    · have hkk : k = s.size := by omega
      have hkl : k = l.length := by rw [hkk, HS.out]
      have hO2 : BM.decS 0 0 (digs l) = (O, cnt, n) := by
        rw [HO.out, hkl, show l.length = (digs l).length from by simp [digs], List.drop_length]
        simp [BM.decS]
      have hlt64 : ∀ d ∈ digs l, d < 64 := by
        intro d hd
        obtain ⟨y, hy, rfl⟩ := List.mem_map.1 hd
        obtain ⟨j, hj, rfl⟩ := List.getElem_of_mem hy
        exact OK.out j _ (by omega) (List.getElem?_eq_getElem hj)
      obtain ⟨e1, e2, e3, e4⟩ := BM.decS_eq (digs l) hlt64
      rw [hO2] at e1 e3 e4
      simp only [show (digs l).length = l.length from by simp [digs]] at e1 e2 e3 e4
      have hno := badAt_no (hkl ▸ OK.out)
      have hRe : decR l = if l.length % 4 = 1 then ([], 4, (l.length : Int)) else if n ≠ 0 then ([], 4, (l.length : Int) - 1) else (O, 0, 0) := by
        unfold decR
        rw [if_neg hno, hO2]
      rw [HR.out] at hRe
      have hwb := W0.out.2.2.2.2.1
      obtain ⟨f0, f1, ff⟩ := W0.out.fault
      obtain ⟨c0, _⟩ := W0.out.cells
      have hsq : (s.size : Int) ≤ 10000000 := by omega
      by_cases h4 : l.length % 4 = 1
      · rw [if_pos h4] at hRe
        subst hRe
        have hz : sizeS (s.size : Int) = (0, false) := by unfold sizeS; rw [if_pos (by rw [HS.out]; omega)]
        have CS := hid (fun W => by have := size_any (s.size : Int) W (by omega); rw [hz] at this; exact this)
        have HS3 := hid (show ((s.size : Int)) = (l.length : Int) by rw [HS.out])
        clear hz e1 e2 e3 e4 hO2 hlt64 hno hkk hkl h4 hcnt hn
        go_wp2_with fail
        refine (CS.out _).mono ?_
        rintro e w2 ⟨rfl, rfl⟩
        go_wp2_with fail
        obtain ⟨q1, q2⟩ := two_set W0.out.1 (.int .i64 4) (.int .i64 s.size)
        refine bodyPost_ret (by simp [results, Try.results8, go_sem, q1, q2]; rfl) rfl ?_
        refine ⟨none, 0, ?_, Own.nil _ _ _, (hwb.setCell (p := ⟨w.heap.size, 0, none⟩) (Nat.le_refl _) _).setCell (p := ⟨w.heap.size, 1, none⟩) (Nat.le_refl _) _⟩
        rw [HS3.out]
      · rw [if_neg h4] at hRe
        have hz : (sizeS (s.size : Int)).2 = true := by unfold sizeS; rw [if_neg (by rw [HS.out]; omega)]
        obtain ⟨z, hz'⟩ : ∃ z, (sizeS (s.size : Int)).1 = z := ⟨_, rfl⟩
        have CS := hid (fun W => by have := size_any (s.size : Int) W (by omega); rw [hz, hz'] at this; exact this)
        have HS3 := hid (show ((s.size : Int)) = (l.length : Int) by rw [HS.out])
        by_cases hn0 : n = 0
        · rw [if_neg (by simpa using hn0)] at hRe
          subst hRe
          subst hn0
          have ow := hid W0.out.2.2.2.1
          clear hz hz' e1 e2 e3 e4 hO2 hlt64 hno hkk hkl h4 hcnt hn
          go_wp2_with fail
          refine (CS.out _).mono ?_
          rintro e w2 ⟨rfl, rfl⟩
          go_wp2_with fail
          obtain ⟨q1, q2⟩ := two_set W0.out.1 (.int .i64 0) (.int .i64 0)
          refine bodyPost_ret (by simp [results, Try.results8, go_sem, q1, q2]; rfl) rfl ?_
          refine ⟨A, c, rfl, ((ow.out.far (p := ⟨w.heap.size, 0, none⟩) (by simp; omega) _).far (p := ⟨w.heap.size, 1, none⟩) (by simp; omega) _).mono (by omega), (hwb.setCell (p := ⟨w.heap.size, 0, none⟩) (Nat.le_refl _) _).setCell (p := ⟨w.heap.size, 1, none⟩) (Nat.le_refl _) _⟩
        · rw [if_pos (by simpa using hn0)] at hRe
          subst hRe
          have hb : ((n : Int) != 0) = true := by simp; omega
          have hl0 : 0 < s.size := by
            rcases Nat.eq_zero_or_pos s.size with h0 | h0
            · exfalso
              have hl0 : l = [] := List.eq_nil_of_length_eq_zero (by rw [← HS.out, h0])
              subst hl0
              have := hO2
              simp [digs, BM.decS] at this
              omega
            · exact h0
          clear hz hz' e1 e2 e3 e4 hO2 hlt64 hno hkk hkl h4 hcnt hn hn0
          go_wp2_with fail
          refine (CS.out _).mono ?_
          rintro e w2 ⟨rfl, rfl⟩
          go_wp2_with fail
          obtain ⟨q1, q2⟩ := two_set W0.out.1 (.int .i64 4) (.int .i64 ((s.size : Int) - 1))
          refine bodyPost_ret (by simp [results, Try.results8, go_sem, q1, q2]; rfl) rfl ?_
          refine ⟨none, 0, ?_, Own.nil _ _ _, (hwb.setCell (p := ⟨w.heap.size, 0, none⟩) (Nat.le_refl _) _).setCell (p := ⟨w.heap.size, 1, none⟩) (Nat.le_refl _) _⟩
          rw [HS3.out]
end Go.Proofs.Ytgcdpkjohaplcaa
