/- Layer 11: Encode. -/
import Derived.Test.YtgcdpkjohaplcaaBasA
import Derived.Outline
namespace Go.Proofs.Ytgcdpkjohaplcaa
open Go.BK Go.RowKit
set_option linter.unusedVariables false
theorem Bld.is {w : World} {base b : Nat} {l : List UInt8} (h : Bld w base b l) : Lib.IsBuilder 48 5 b b (Lib.byteCells l) w := by
  obtain ⟨p, A, c, hp, hb, ho, hlt, hz⟩ := h
  have key : ∃ v, w.heap[b]? = some (.cells #[p, v] 48 (0, 0)) ∧ w.ownsRow b 5 1 v (Lib.byteCells l).length (Lib.byteCells l) ∧ v.ownBlock ≠ some b := by
    refine ⟨_, hb, ?_⟩
    rcases ho with ⟨rfl, h0, rfl, h1⟩ | ⟨g, full, rfl, hbg, hg, hfl, hnc, hcm, ht, _⟩
    · have : l = [] := List.eq_nil_of_length_eq_zero h0
      subst this
      exact ⟨World.ownsRow_nil _ _ _ _, by simp [Value.ownBlock]⟩
    · refine ⟨⟨by simp [Lib.byteCells], .inr ⟨g, c, _, by simp [Lib.byteCells], by omega, hg, by simpa [Lib.byteCells] using hnc, hcm, by simp [hfl], by simpa [Lib.byteCells] using ht⟩⟩, ?_⟩
      simp [Value.ownBlock]; omega
  rcases hp with rfl | rfl
  · exact .inl ⟨Nat.le_refl _, key⟩
  · exact .inr ⟨Nat.le_refl _, key⟩
theorem bld_string (base b : Nat) (l : List UInt8) (w : World) (h : Bld w base b l) :
    Calls Try.prog 26 #[.pointer (some ⟨b, 0, none⟩)] w fun e w' => e = .returned (.string (str l)) ∧ Below b w w' :=
  Try.Builder_String_any b b l w h.is (by obtain ⟨_, _, _, _, hb, _⟩ := h; exact Nat.le_of_lt hb.lt)

/-- The world within Encode. -/
def EncW (w wr : World) (n cnt : Nat) (O : List Nat) : Prop :=
  Blk wr (w.heap.size + 1) 42 #[.int .i64 n, .int .i64 cnt] ∧ Bld wr (w.heap.size + 2) w.heap.size (O.map BM.letN) ∧ Below w.heap.size w wr
theorem EncW.cell {w wr : World} {n cnt : Nat} {O : List Nat} (h : EncW w wr n cnt O) : wr.cell? ⟨w.heap.size + 1, 1, none⟩ = some (.int .i64 cnt) := h.1.two.2.1
theorem EncW.bits {w wr w' : World} {n cnt n' cnt' : Nat} {O : List Nat} (h : EncW w wr n cnt O) (hb : Blk w' (w.heap.size + 1) 42 #[.int .i64 n', .int .i64 cnt']) (hs : Shy (fun k => k = w.heap.size + 1) wr w') : EncW w w' n' cnt' O := by
  obtain ⟨_, h2, h3⟩ := h
  exact ⟨hb, h2.shy hs (by omega) (by intro k hk; omega), Below.trans h3 ((hs.below h3.size fun k hk => by omega))⟩
theorem enc_put {w wr : World} {n cnt : Nat} {O : List Nat} (x k N C : Nat) (h : EncW w wr n cnt O) (hn : n < 65536) (hx : x < 2 ^ k) (hc : cnt ≤ 100) (hk : k = 8 ∨ k = 6 ∨ k = 4 ∨ k = 2) (hN : n * 2 ^ k + x = N) (hC : cnt + k = C) :
    Calls Try.prog 22 #[.pointer (some ⟨w.heap.size + 1, 0, none⟩), .int .i64 x, .int .i64 k] wr fun e w' => e = .returned (.tuple #[]) ∧ EncW w w' N C O := by
  subst hN; subst hC
  refine (put_any _ n cnt x k wr h.1 hn hx hc hk).mono ?_
  rintro e w' ⟨rfl, hb, hs⟩
  exact ⟨rfl, h.bits hb hs⟩
theorem enc_get {w wr : World} {n C : Nat} {O : List Nat} (m k v r : Nat) (h : EncW w wr n C O) (hn : n < 16777216) (hm : m = 0 ∨ m = 2 ∨ m = 4 ∨ m = 6) (hk : k = 8 ∨ k = 6) (hC : C = m + k) (hv : n / 2 ^ m = v) (hr : n % 2 ^ m = r) :
    Calls Try.prog 23 #[.pointer (some ⟨w.heap.size + 1, 0, none⟩), .int .i64 k] wr fun e w' => e = .returned (.int .i64 v) ∧ EncW w w' r m O := by
  subst hv; subst hr; subst hC
  refine (get_any _ n m k wr h.1 hn hm hk).mono ?_
  rintro e w' ⟨rfl, hb, hs⟩
  exact ⟨rfl, h.bits hb hs⟩
theorem enc_write {w wr : World} {n cnt : Nat} {O : List Nat} (v : Nat) (h : EncW w wr n cnt O) (hO : O.length ≤ 10000000) :
    Calls Try.prog 25 #[.pointer (some ⟨w.heap.size, 0, none⟩), .int .u8 (BM.letN v).toNat] wr fun e w' => e = .returned .nilIface ∧ EncW w w' n cnt (O ++ [v]) := by
  obtain ⟨h1, h2, h3⟩ := h
  refine (write_byte _ _ _ (BM.letN v) wr h2 (by simp; omega)).mono ?_
  rintro e w' ⟨rfl, hb, hs⟩
  refine ⟨rfl, (hs.block _ h1.lt (by omega)).trans h1, by simpa using hb, Below.trans h3 (hs.below h3.size fun k hk => by omega)⟩
theorem ix_let (v : Nat) (hv : v < 64) (w : World) : (Instr.index 9 (.string ⟨#[65, 66, 67, 68, 69, 70, 71, 72, 73, 74, 75, 76, 77, 78, 79, 80, 81, 82, 83, 84, 85, 86, 87, 88, 89, 90, 97, 98, 99, 100, 101, 102, 103, 104, 105, 106, 107, 108, 109, 110, 111, 112, 113, 114, 115, 116, 117, 118, 119, 120, 121, 122, 48, 49, 50, 51, 52, 53, 54, 55, 56, 57, 45, 95]⟩) (.int .i64 v)).run Try.prog w = .ok (.int .u8 (BM.letN v).toNat) w := by
  have h : ∀ v : Fin 64, (Instr.index 9 (.string ⟨#[65, 66, 67, 68, 69, 70, 71, 72, 73, 74, 75, 76, 77, 78, 79, 80, 81, 82, 83, 84, 85, 86, 87, 88, 89, 90, 97, 98, 99, 100, 101, 102, 103, 104, 105, 106, 107, 108, 109, 110, 111, 112, 113, 114, 115, 116, 117, 118, 119, 120, 121, 122, 48, 49, 50, 51, 52, 53, 54, 55, 56, 57, 45, 95]⟩) (.int .i64 v.val)).run Try.prog w = .ok (.int .u8 (BM.letN v.val).toNat) w := by
    intro v
    rcases v with ⟨v, hv⟩
    iterate 64 (rcases v with _ | v; · kernel_rfl)
    omega
  exact h ⟨v, hv⟩
set_option maxHeartbeats 2000000 in
set_option maxRecDepth 100000 in
theorem encode_any {A : Option Addr} {c : Nat} {l : List UInt8} {w : World} (h : Rd w A c l) (hl : l.length ≤ 1000000) :
    Calls Try.prog 12 #[.slice A l.length c] w fun e w' => e = .returned (.string (str ((BM.encD l).map BM.letN))) ∧ Below w.heap.size w w' := by
  have hE : EncW w ((w.alloc (.cells #[.pointer none, .slice none 0 0] 48)).alloc (.cells #[.int .i64 0, .int .i64 0] 42)) 0 0 [] := by
    refine ⟨?_, ?_, ?_⟩
    · have := Blk.new (w.alloc (.cells #[.pointer none, .slice none 0 0] 48)) 42 #[.int .i64 0, .int .i64 0]
      simpa using this
    · exact Bld.new _ _ _ ((Blk.new w 48 #[.pointer none, .slice none 0 0]).alloc _) (by omega) (by simp)
    · exact ((Below.refl _ _).alloc (Nat.le_refl _) _).alloc (by simp) _
  have HE := hid hE
  clear hE
  have H := hid h
  have hix := ix_let
  have Hix := hid hix
  clear h hix
  go_enter Try.func12, Try.ntmps12
  go_wp2_with fail
  go_loopw [9] (fun i wr => ∃ (k n cnt : Nat) (O : List Nat), k ≤ l.length ∧ i = .int .i64 k ∧ (cnt = 0 ∨ cnt = 2 ∨ cnt = 4) ∧ n < 2 ^ cnt ∧ EncW w wr n cnt O ∧ O ++ BM.encS cnt n (l.drop k) = BM.encD l) (fun i _ => l.length - (intOf i).toNat)
  case atStart => exact ⟨0, 0, 0, [], Nat.zero_le _, rfl, .inl rfl, by decide, HE.out, by simp [BM.encS_eq]⟩
  case round =>
    obtain ⟨k, n, cnt, O, hk, rfl, hcnt, hn, hE, hO⟩ := hrel
    have HO := hid hO
    have HE' := hid hE
    clear HE hE hO
    by_cases hlt : k < l.length
    · obtain ⟨b, o, rfl, hbl, hcell⟩ := Rd.at_ (H.out.ext HE'.out.2.2) hlt
      obtain ⟨x, hx⟩ : ∃ x, x = l.getD k 0 := ⟨_, rfl⟩
      rw [← hx] at hcell
      have HX := hid hx
      clear hx
      have hxl := x.toNat_lt
      obtain ⟨N, hN⟩ : ∃ N, n * 2 ^ 8 + x.toNat = N := ⟨_, rfl⟩
      have hdr : l.drop k = x :: l.drop (k + 1) := by
        rw [List.drop_eq_getElem_cons hlt, HX.out]; simp [hlt]
      have HD := hid hdr
      clear hdr
      rcases hcnt with rfl | rfl | rfl
      · have hN2 : N < 256 := by omega
        obtain ⟨v, hv⟩ : ∃ v, N / 2 ^ 2 = v := ⟨_, rfl⟩
        obtain ⟨r, hr⟩ : ∃ v, N % 2 ^ 2 = v := ⟨_, rfl⟩
        have hvl : v < 64 := by omega
        have hrl : r < 4 := by omega
        have hS : (O ++ [v]) ++ BM.encS 2 r (l.drop (k + 1)) = BM.encD l := by
          rw [← HO.out, HD.out]; simp [BM.encS, ← hv, ← hr, ← hN]
        have HS := hid hS
        have HN := hid hN
        have HV := hid hv
        have HR := hid hr
        have hi := Hix.out v hvl
        have hOl : O.length ≤ 2000000 := by have := congrArg List.length HO.out; rw [List.length_append, BM.encD_len] at this; omega
        have C1 := hid (fun W (E : EncW w W n 0 O) => enc_put x.toNat 8 N 8 E (by omega) (by omega) (by omega) (.inl rfl) HN.out rfl)
        have C2 := hid (fun W (E : EncW w W N 8 O) => enc_get 2 6 v r E (by omega) (.inr (.inl rfl)) (.inr rfl) rfl HV.out HR.out)
        have C3 := hid (fun W (E : EncW w W r 2 O) => enc_write v E (by omega))
        clear hS hN hv hr hn
        go_wp2_with fail
        refine (C1.out _ HE'.out).mono ?_
        rintro e w1 ⟨rfl, E1⟩
        have c1 : w1.cell? ⟨w.heap.size + 1, 1, none⟩ = some (.int .i64 8) := E1.cell
        have E1 := hid E1
        clear HE' hcell
        go_wp2_with fail
        refine wp_loop_rounds 2 ?_
        rw [rounds_succ]
        go_wp2_with fail
        refine (C2.out _ E1.out).mono ?_
        rintro e w2 ⟨rfl, E2⟩
        have E2 := hid E2
        clear E1 c1
        go_wp2_with fail
        refine (C3.out _ E2.out).mono ?_
        rintro e w3 ⟨rfl, E3⟩
        have c3 : w3.cell? ⟨w.heap.size + 1, 1, none⟩ = some (.int .i64 2) := E3.cell
        have E3 := hid E3
        clear E2
        go_wp2_with fail
        try rw [rounds_succ]
        go_wp2_with fail
        go_roundw
        case rel => exact ⟨k + 1, r, 2, _, by omega, by go_num, .inr (.inl rfl), by omega, E3.out, HS.out⟩
        case measure => simp [intOf]; omega
      · have hN2 : N < 1024 := by omega
        obtain ⟨v, hv⟩ : ∃ v, N / 2 ^ 4 = v := ⟨_, rfl⟩
        obtain ⟨r, hr⟩ : ∃ v, N % 2 ^ 4 = v := ⟨_, rfl⟩
        have hvl : v < 64 := by omega
        have hrl : r < 16 := by omega
        have hS : (O ++ [v]) ++ BM.encS 4 r (l.drop (k + 1)) = BM.encD l := by
          rw [← HO.out, HD.out]; simp [BM.encS, ← hv, ← hr, ← hN]
        have HS := hid hS
        have HN := hid hN
        have HV := hid hv
        have HR := hid hr
        have hi := Hix.out v hvl
        have hOl : O.length ≤ 2000000 := by have := congrArg List.length HO.out; rw [List.length_append, BM.encD_len] at this; omega
        have C1 := hid (fun W (E : EncW w W n 2 O) => enc_put x.toNat 8 N 10 E (by omega) (by omega) (by omega) (.inl rfl) HN.out rfl)
        have C2 := hid (fun W (E : EncW w W N 10 O) => enc_get 4 6 v r E (by omega) (.inr (.inr (.inl rfl))) (.inr rfl) rfl HV.out HR.out)
        have C3 := hid (fun W (E : EncW w W r 4 O) => enc_write v E (by omega))
        clear hS hN hv hr hn
        go_wp2_with fail
        refine (C1.out _ HE'.out).mono ?_
        rintro e w1 ⟨rfl, E1⟩
        have c1 : w1.cell? ⟨w.heap.size + 1, 1, none⟩ = some (.int .i64 10) := E1.cell
        have E1 := hid E1
        clear HE' hcell
        go_wp2_with fail
        refine wp_loop_rounds 2 ?_
        rw [rounds_succ]
        go_wp2_with fail
        refine (C2.out _ E1.out).mono ?_
        rintro e w2 ⟨rfl, E2⟩
        have E2 := hid E2
        clear E1 c1
        go_wp2_with fail
        refine (C3.out _ E2.out).mono ?_
        rintro e w3 ⟨rfl, E3⟩
        have c3 : w3.cell? ⟨w.heap.size + 1, 1, none⟩ = some (.int .i64 4) := E3.cell
        have E3 := hid E3
        clear E2
        go_wp2_with fail
        try rw [rounds_succ]
        go_wp2_with fail
        go_roundw
        case rel => exact ⟨k + 1, r, 4, _, by omega, by go_num, .inr (.inr rfl), by omega, E3.out, HS.out⟩
        case measure => simp [intOf]; omega
      · have hN2 : N < 4096 := by omega
        obtain ⟨v, hv⟩ : ∃ v, N / 2 ^ 6 = v := ⟨_, rfl⟩
        obtain ⟨r, hr⟩ : ∃ v, N % 2 ^ 6 = v := ⟨_, rfl⟩
        have hvl : v < 64 := by omega
        have hrl : r < 64 := by omega
        have hS : (O ++ [v] ++ [r]) ++ BM.encS 0 0 (l.drop (k + 1)) = BM.encD l := by
          rw [← HO.out, HD.out]; simp [BM.encS, ← hv, ← hr, ← hN]
        have HS := hid hS
        have HN := hid hN
        have HV := hid hv
        have HR := hid hr
        have hi := Hix.out v hvl
        have hOl : O.length ≤ 2000000 := by have := congrArg List.length HO.out; rw [List.length_append, BM.encD_len] at this; omega
        have C1 := hid (fun W (E : EncW w W n 4 O) => enc_put x.toNat 8 N 12 E (by omega) (by omega) (by omega) (.inl rfl) HN.out rfl)
        have C2 := hid (fun W (E : EncW w W N 12 O) => enc_get 6 6 v r E (by omega) (.inr (.inr (.inr rfl))) (.inr rfl) rfl HV.out HR.out)
        have C3 := hid (fun W (E : EncW w W r 6 O) => enc_write v E (by omega))
        have hi2 := Hix.out r hrl
        have C4 := hid (fun W (E : EncW w W r 6 (O ++ [v])) => enc_get 0 6 r 0 E (by omega) (.inl rfl) (.inr rfl) rfl (by simp) (by simp [Nat.mod_one]))
        have C5 := hid (fun W (E : EncW w W 0 0 (O ++ [v])) => enc_write r E (by simp; omega))
        clear hS hN hv hr hn
        go_wp2_with fail
        refine (C1.out _ HE'.out).mono ?_
        rintro e w1 ⟨rfl, E1⟩
        have c1 : w1.cell? ⟨w.heap.size + 1, 1, none⟩ = some (.int .i64 12) := E1.cell
        have E1 := hid E1
        clear HE' hcell
        go_wp2_with fail
        refine wp_loop_rounds 3 ?_
        rw [rounds_succ]
        go_wp2_with fail
        refine (C2.out _ E1.out).mono ?_
        rintro e w2 ⟨rfl, E2⟩
        have E2 := hid E2
        clear E1 c1
        go_wp2_with fail
        refine (C3.out _ E2.out).mono ?_
        rintro e w3 ⟨rfl, E3⟩
        have c3 : w3.cell? ⟨w.heap.size + 1, 1, none⟩ = some (.int .i64 6) := E3.cell
        have E3 := hid E3
        clear E2
        go_wp2_with fail
        try rw [rounds_succ]
        go_wp2_with fail
        refine (C4.out _ E3.out).mono ?_
        rintro e w4 ⟨rfl, E4⟩
        have E4 := hid E4
        clear E3 c3
        go_wp2_with fail
        refine (C5.out _ E4.out).mono ?_
        rintro e w5 ⟨rfl, E5⟩
        have c5 : w5.cell? ⟨w.heap.size + 1, 1, none⟩ = some (.int .i64 0) := E5.cell
        have E5 := hid E5
        clear E4
        go_wp2_with fail
        try rw [rounds_succ]
        go_wp2_with fail
        go_roundw
        case rel => exact ⟨k + 1, 0, 0, _, by omega, by go_num, .inl rfl, by decide, E5.out, HS.out⟩
        case measure => simp [intOf]; omega
    · obtain rfl : k = l.length := by omega
      have hz := HO.out
      rw [List.drop_length] at hz
      have hOl : O.length ≤ 2000000 := by have := congrArg List.length HO.out; rw [List.length_append, BM.encD_len] at this; omega
      rcases hcnt with rfl | rfl | rfl
      · have hz2 : O = BM.encD l := by simpa [BM.encS] using hz
        have HZ := hid hz2
        clear hz hz2
        have c1 : wr.cell? ⟨w.heap.size + 1, 1, none⟩ = some (.int .i64 0) := HE'.out.cell
        go_wp2_with fail
        refine (bld_string _ _ _ _ HE'.out.2.1).mono ?_
        rintro e w1 ⟨rfl, B1⟩
        go_wp2_with fail
        go_ret
        exact ⟨by rw [HZ.out]; rfl, Below.trans HE'.out.2.2 B1⟩
      · have hz2 : O ++ [n * 2 ^ 4] = BM.encD l := by simpa [BM.encS] using hz
        obtain ⟨N, hN⟩ : ∃ N, n * 2 ^ 4 + 0 = N := ⟨_, rfl⟩
        have hNl : N < 64 := by omega
        have hz3 : O ++ [N] = BM.encD l := by rw [← hz2, ← hN]; rfl
        have HZ := hid hz3
        have HN := hid hN
        have hi := Hix.out N hNl
        have C1 := hid (fun W (E : EncW w W n 2 O) => enc_put 0 4 N 6 E (by omega) (by omega) (by omega) (.inr (.inr (.inl rfl))) HN.out rfl)
        have C2 := hid (fun W (E : EncW w W N 6 O) => enc_get 0 6 N 0 E (by omega) (.inl rfl) (.inr rfl) rfl (by simp) (by simp [Nat.mod_one]))
        have C3 := hid (fun W (E : EncW w W 0 0 O) => enc_write N E (by omega))
        clear hz hz2 hz3 hN hn
        have c1 : wr.cell? ⟨w.heap.size + 1, 1, none⟩ = some (.int .i64 2) := HE'.out.cell
        go_wp2_with fail
        refine (C1.out _ HE'.out).mono ?_
        rintro e w1 ⟨rfl, E1⟩
        have E1 := hid E1
        clear HE' c1
        go_wp2_with fail
        refine (C2.out _ E1.out).mono ?_
        rintro e w2 ⟨rfl, E2⟩
        have E2 := hid E2
        clear E1
        go_wp2_with fail
        refine (C3.out _ E2.out).mono ?_
        rintro e w3 ⟨rfl, E3⟩
        have E3 := hid E3
        clear E2
        go_wp2_with fail
        refine (bld_string _ _ _ _ E3.out.2.1).mono ?_
        rintro e w4 ⟨rfl, B4⟩
        go_wp2_with fail
        go_ret
        exact ⟨by rw [← HZ.out, List.map_append]; rfl, Below.trans E3.out.2.2 B4⟩
      · have hz2 : O ++ [n * 2 ^ 2] = BM.encD l := by simpa [BM.encS] using hz
        obtain ⟨N, hN⟩ : ∃ N, n * 2 ^ 2 + 0 = N := ⟨_, rfl⟩
        have hNl : N < 64 := by omega
        have hz3 : O ++ [N] = BM.encD l := by rw [← hz2, ← hN]; rfl
        have HZ := hid hz3
        have HN := hid hN
        have hi := Hix.out N hNl
        have C1 := hid (fun W (E : EncW w W n 4 O) => enc_put 0 2 N 6 E (by omega) (by omega) (by omega) (.inr (.inr (.inr rfl))) HN.out rfl)
        have C2 := hid (fun W (E : EncW w W N 6 O) => enc_get 0 6 N 0 E (by omega) (.inl rfl) (.inr rfl) rfl (by simp) (by simp [Nat.mod_one]))
        have C3 := hid (fun W (E : EncW w W 0 0 O) => enc_write N E (by omega))
        clear hz hz2 hz3 hN hn
        have c1 : wr.cell? ⟨w.heap.size + 1, 1, none⟩ = some (.int .i64 4) := HE'.out.cell
        go_wp2_with fail
        refine (C1.out _ HE'.out).mono ?_
        rintro e w1 ⟨rfl, E1⟩
        have E1 := hid E1
        clear HE' c1
        go_wp2_with fail
        refine (C2.out _ E1.out).mono ?_
        rintro e w2 ⟨rfl, E2⟩
        have E2 := hid E2
        clear E1
        go_wp2_with fail
        refine (C3.out _ E2.out).mono ?_
        rintro e w3 ⟨rfl, E3⟩
        have E3 := hid E3
        clear E2
        go_wp2_with fail
        refine (bld_string _ _ _ _ E3.out.2.1).mono ?_
        rintro e w4 ⟨rfl, B4⟩
        go_wp2_with fail
        go_ret
        exact ⟨by rw [← HZ.out, List.map_append]; rfl, Below.trans E3.out.2.2 B4⟩
end Go.Proofs.Ytgcdpkjohaplcaa
