/- The contracts of lexer.now, lex.hex, lex.word. -/
import Derived.Test.YtnjnadlgndjnbaaDoorYHc
set_option linter.unusedVariables false
set_option linter.unusedSimpArgs false
namespace Go.Proofs.YtnjnadlgndjnbaaDoor.Lx
open Go.RowKit Go.Proofs.YtnjnadlgndjnbaaDoorW.PrintLast
theorem ret_int' {k : IntKind} {a b : Int} (h : a = b) : Ending.returned (.int k a) = .returned (.int k b) := by rw [h]
theorem ret_ub {a b : Int} {c : Bool} (h : a = b) : Ending.returned (.tuple #[.int .u64 a, .bool c]) = .returned (.tuple #[.int .u64 b, .bool c]) := by rw [h]
theorem bt_out (s : ByteArray) (i : Nat) (h : s.size ≤ i) : bt s i = 0 := by unfold bt; rw [dif_neg (by omega)]
theorem below_drewN' (w : World) (m B : Nat) : Below B w (w.drewN m) := ⟨rfl, rfl, rfl, Nat.le_refl _, fun _ _ => rfl⟩
theorem below_trans' {B : Nat} {w W W2 W3 : World} (h : Below B w W) (hB : B ≤ W.heap.size) (h2 : Below W.heap.size W W2) (h3 : Below B W2 W3) : Below B w W3 := (h.trans (h2.mono hB)).trans h3
theorem below_drewNd (w : World) (m : Nat) : Below w.heap.size w (w.drewN m).drew := ⟨rfl, rfl, rfl, Nat.le_refl _, fun _ _ => rfl⟩
theorem below_drewN (w : World) (m : Nat) : Below w.heap.size w (w.drewN m) := ⟨rfl, rfl, rfl, Nat.le_refl _, fun _ _ => rfl⟩
set_option maxRecDepth 100000 in
set_option maxHeartbeats 400000 in
theorem now_any (g : Nat) (s : ByteArray) (i n : Nat) (line col : Int) (v : Value) (bad : Bool) (w : World) (hs : s.size ≤ 140737488351232) (hi : i ≤ 140737488351232) (hn : n ≤ 140737488351240) (h : LexSt w g s i line col v bad) :
    Calls Tryd.prog 65 #[.pointer (some ⟨g, 0, none⟩), .int .i64 n] w fun e w' => e = .returned (.int .u8 (bt s (i + n))) ∧ ∃ m, w' = w.drewN m := by
  have hc0 := h.c0
  have hc1 := h.c1
  have e1 : IntKind.i64.wrap ((i : Int) + n) = (i : Int) + n := IntWalk.i64_in _ (by omega)
  by_cases hlt : i + n < s.size
  · have hb := bt_eq s (i + n) hlt
    have h0 : (0 : Int) ≤ (i : Int) + n := by omega
    have hlt' : (i : Int) + n < (s.size : Int) := by omega
    have htn : ((i : Int) + n).toNat = i + n := by omega
    have HB := Hd.mk hb
    clear hb
    go_enter Tryd.func65, Tryd.ntmps65
    go_wp2
    go_quiet (fail)
    go_wp2
    go_quiet (fail)
    go_wp2
    go_ret
    exact ⟨ret_int' HB.out, _, World.drewN_drewN _ _ _⟩
  · have hb := bt_out s (i + n) (by omega)
    rw [hb]
    have hge : ¬ ((i : Int) + n < (s.size : Int)) := by omega
    go_enter Tryd.func65, Tryd.ntmps65
    go_wp2
    go_quiet (fail)
    go_wp2
    go_ret
    exact ⟨rfl, _, rfl⟩
theorem now_int (g : Nat) (s : ByteArray) (i n : Int) (line col : Int) (v : Value) (bad : Bool) (w : World) (hs : s.size ≤ 140737488351232) (hi0 : 0 ≤ i) (hi : i ≤ 140737488351232) (hn0 : 0 ≤ n) (hn : n ≤ 140737488351240) (h : LexSt w g s i line col v bad) :
    Calls Tryd.prog 65 #[.pointer (some ⟨g, 0, none⟩), .int .i64 n] w fun e w' => e = .returned (.int .u8 (bt s (i.toNat + n.toNat))) ∧ ∃ m, w' = w.drewN m := by
  obtain ⟨i, rfl⟩ := Int.eq_ofNat_of_zero_le hi0
  obtain ⟨n, rfl⟩ := Int.eq_ofNat_of_zero_le hn0
  exact now_any g s i n line col v bad w hs (by omega) (by omega) h
def hexOk (c : Int) : Bool := digB c || (decide (97 ≤ c) && decide (c ≤ 102))
def hexV (c : Int) : Int := if digB c = true then c - 48 else if 97 ≤ c ∧ c ≤ 102 then c - 87 else 0
set_option maxHeartbeats 400000 in
theorem hex_any (c : Int) (w : World) (h0 : 0 ≤ c) (h1 : c ≤ 255) :
    Calls Tryd.prog 78 #[.int .u8 c] w fun e w' => e = .returned (.tuple #[.int .u64 (hexV c), .bool (hexOk c)]) ∧ w = w' := by
  cases hd : digB c with
  | true =>
    have hd' : 48 ≤ c ∧ c ≤ 57 := by simpa [digB] using hd
    obtain ⟨ha, hb⟩ := hd'
    have e1 : hexV c = c - 48 := by simp [hexV, hd]
    have e2 : hexOk c = true := by simp [hexOk, hd]
    rw [e1, e2]
    clear e1 e2
    go_enter Tryd.func78, Tryd.ntmps78
    go_wp2_with (go_at_call 69; refine (digit_any _ _).mono ?_; rintro e w' ⟨rfl, rfl⟩)
    go_ret2
    exact ⟨rfl, rfl⟩
  | false =>
    by_cases ha : 97 ≤ c ∧ c ≤ 102
    · have e1 : hexV c = c - 87 := by simp [hexV, hd, ha]
      have e2 : hexOk c = true := by simp [hexOk, hd, ha]
      rw [e1, e2]
      clear e1 e2
      obtain ⟨hx, hy⟩ := ha
      go_enter Tryd.func78, Tryd.ntmps78
      go_wp2_with (go_at_call 69; refine (digit_any _ _).mono ?_; rintro e w' ⟨rfl, rfl⟩)
      go_ret2
      exact ⟨ret_ub (by omega), rfl⟩
    · have e1 : hexV c = 0 := by simp [hexV, hd]; omega
      have e2 : hexOk c = false := by simp [hexOk, hd]; omega
      rw [e1, e2]
      clear e1 e2
      by_cases hx : 97 ≤ c
      all_goals
        go_enter Tryd.func78, Tryd.ntmps78
        go_wp2_with (go_at_call 69; refine (digit_any _ _).mono ?_; rintro e w' ⟨rfl, rfl⟩)
        go_ret2
        exact ⟨rfl, rfl⟩
def wscan (s : ByteArray) : Nat → Nat → Nat
  | 0, _ => 0
  | f + 1, j => if wcB (bt s j) then 1 + wscan s f (j + 1) else 0
theorem wscan_of (s : ByteArray) : ∀ (f j n : Nat), n < f → (∀ m, m < n → wcB (bt s (j + m)) = true) → wcB (bt s (j + n)) = false → wscan s f j = n := by
  intro f; induction f with
  | zero => intro j n h; omega
  | succ f ih =>
    intro j n hn h1 h2
    cases n with
    | zero => simp only [Nat.add_zero] at h2; simp [wscan, h2]
    | succ n =>
      have h0 := h1 0 (by omega)
      simp only [Nat.add_zero] at h0
      simp only [wscan, h0, if_true]
      rw [ih (j + 1) n (by omega) (fun m hm => by have := h1 (m + 1) (by omega); rwa [show j + (m + 1) = j + 1 + m from by omega] at this) (by rwa [show j + (n + 1) = j + 1 + n from by omega] at h2)]
      omega
def wordLen (s : ByteArray) (i : Nat) : Nat := 1 + wscan s (s.size + 1) (i + 1)
theorem wcB_zero : wcB 0 = false := by decide
theorem wcB_lt (s : ByteArray) (i : Nat) (h : wcB (bt s i) = true) : i < s.size := by
  rcases Nat.lt_or_ge i s.size with h' | h'
  · exact h'
  · rw [bt_out s i h', wcB_zero] at h; cases h
set_option maxRecDepth 100000 in
set_option maxHeartbeats 1000000 in
theorem word_any (B g : Nat) (s : ByteArray) (i : Nat) (line col : Int) (l : List Tk) (bad : Bool) (w : World) (hs : s.size ≤ 140737488351232) (hw : wcB (bt s i) = true) (hl : l.length ≤ 1048576) (hK : Keys w)
    (hl0 : 0 ≤ line) (hl1 : line ≤ 140737488351233) (hk0 : 0 ≤ col) (hk1 : col ≤ 140737488351233) (hB0 : 0 < B) (h : LexAt B w g s i line col l bad) :
    Calls Tryd.prog 68 #[.pointer (some ⟨g, 0, none⟩)] w fun e w' => e = .returned (.func (.func 53) #[] #[]) ∧
      i + wordLen s i ≤ s.size ∧ LexAt B w' g s ((i : Int) + (wordLen s i : Nat)) (adv s i (line, col) (wordLen s i)).1 (adv s i (line, col) (wordLen s i)).2 (l ++ [⟨kindOf (s.extract i (i + wordLen s i)), s.extract i (i + wordLen s i), line, col, 0⟩]) bad ∧ Below B w w' := by
  have hlt := wcB_lt s i hw
  have HA := Hd.mk h
  obtain ⟨hBg, v, hS, hown, hne⟩ := h
  have HS := Hd.mk hS
  clear hS hown
  have HKe := Hd.mk hK
  clear hK
  go_enter Tryd.func68, Tryd.ntmps68
  go_wp2
  go_loopw [3] (fun t wr => ∃ n m : Nat, 1 ≤ n ∧ i + n ≤ s.size ∧ t = .int .i64 n ∧ wr = w.drewN m ∧ Hd (∀ j, j < n → wcB (bt s (i + j)) = true)) (fun t _ => s.size - (intOf t).toNat)
  case atStart =>
    refine ⟨1, 0, by omega, by omega, rfl, rfl, ⟨fun j hj => ?_⟩⟩
    obtain rfl : j = 0 := by omega
    exact hw
  case round =>
    obtain ⟨n, m, hn1, hn2, rfl, rfl, hall⟩ := hrel
    by_cases hwc : wcB (bt s (i + n)) = true
    · have hlt' := wcB_lt s (i + n) hwc
      have hall' : Hd (∀ j, j < n + 1 → wcB (bt s (i + j)) = true) := ⟨fun j hj => by
        rcases Nat.lt_or_ge j n with h | h
        · exact hall.out j h
        · obtain rfl : j = n := by omega
          exact hwc⟩
      cases h1 : letB (bt s (i + n)) <;> cases h2 : digB (bt s (i + n))
      · exact absurd hwc (by simp [wcB, h1, h2])
      all_goals
        clear hwc
        go_wp2_with (first | (go_at_call 65; (refine (now_any g s i n line col v bad _ hs (by omega) (by omega) (by exact HS.out)).mono ?_); rintro e w' ⟨rfl, m1, rfl⟩) | (go_at_call 67; refine (letter_any _ _).mono ?_; rintro e w' ⟨rfl, rfl⟩) | (go_at_call 69; refine (digit_any _ _).mono ?_; rintro e w' ⟨rfl, rfl⟩))
        exact ⟨⟨n + 1, _, by omega, by omega, by go_num, rfl, hall'⟩, by simp [intOf]; omega⟩
    · have h1 : letB (bt s (i + n)) = false := by cases h : letB (bt s (i + n)) <;> simp_all [wcB]
      have h2 : digB (bt s (i + n)) = false := by cases h : digB (bt s (i + n)) <;> simp_all [wcB]
      have hwl : wordLen s i = n := by
        unfold wordLen
        rw [wscan_of s (s.size + 1) (i + 1) (n - 1) (by omega) (fun m hm => by have := hall.out (m + 1) (by omega); rwa [show i + (m + 1) = i + 1 + m from by omega] at this) (by rw [show i + 1 + (n - 1) = i + n from by omega]; simp [wcB, h1, h2])]
        omega
      have Hwl := Hd.mk hwl
      clear hwl hwc
      go_wp2_with (first | (go_at_call 65; (refine (now_any g s i n line col v bad _ hs (by omega) (by omega) (by exact HS.out)).mono ?_); rintro e w' ⟨rfl, m1, rfl⟩) | (go_at_call 67; refine (letter_any _ _).mono ?_; rintro e w' ⟨rfl, rfl⟩) | (go_at_call 69; refine (digit_any _ _).mono ?_; rintro e w' ⟨rfl, rfl⟩))
      have e1 : IntKind.i64.wrap ((i : Int) + n) = (i : Int) + n := IntWalk.i64_in _ (by omega)
      have hj0 : (0 : Int) ≤ (i : Int) := by omega
      have hj1 : (i : Int) ≤ (i : Int) + n := by omega
      have hj2 : (i : Int) + n ≤ (s.size : Int) := by omega
      have hc0 := HS.out.c0
      have hc1 := HS.out.c1
      have hgl := HS.out.lt
      refine start_ (n := 19) (S := fun w' => w'.cell? ⟨g, 0, none⟩ = some (.string s) ∧ w'.cell? ⟨g, 1, none⟩ = some (.int .i64 i)) (ds := [18]) #[false, false, false, false, false, false, false, false, false, false, false, false, false, false, false, false, false, false, false] (by kernel_rfl) rfl rfl ⟨hc0, hc1⟩ (fun hHeld => ?_)
      refine pure_ (i := 0) (N := some 16) (v := ?_) (a' := ?_) #[true, false, false, false, false, false, false, false, false, false, false, false, false, false, false, false, false, false, false] rfl rfl (by kernel_rfl) (fun _ _ _ h => h) (Or.inl ⟨by rfl, ?_⟩) ?_ ?_
      rotate_left
      · intro w'
        go_simp
        with_reducible rfl
      rotate_left
      · simp only [Act.put, List.setIfInBounds_toArray, List.set_cons_zero, List.set_cons_succ, i64_w, i32_w]
        rfl
      refine pure_ (i := 1) (N := some 17) (v := ?_) (a' := ?_) #[true, true, false, false, false, false, false, false, false, false, false, false, false, false, false, false, false, false, false] rfl rfl (by kernel_rfl) (fun _ _ _ h => h) (Or.inl ⟨by rfl, ?_⟩) ?_ ?_
      rotate_left
      · intro w'
        go_simp
        with_reducible rfl
      rotate_left
      · simp only [Act.put, List.setIfInBounds_toArray, List.set_cons_zero, List.set_cons_succ, i64_w, i32_w]
        rfl
      refine pure_ (i := 2) (N := some 18) (v := ?_) (a' := ?_) #[true, true, true, false, false, false, false, false, false, false, false, false, false, false, false, false, false, false, false] rfl rfl (by kernel_rfl) (fun _ _ _ h => h) (Or.inl ⟨by rfl, ?_⟩) ?_ ?_
      rotate_left
      · intro w'
        go_simp
        with_reducible rfl
      rotate_left
      · simp only [Act.put, List.setIfInBounds_toArray, List.set_cons_zero, List.set_cons_succ, i64_w, i32_w]
        rfl
      refine pure_ (i := 3) (N := some 19) (v := ?_) (a' := ?_) #[true, true, true, true, false, false, false, false, false, false, false, false, false, false, false, false, false, false, false] rfl rfl (by kernel_rfl) (fun _ _ _ h => h) (Or.inl ⟨by rfl, ?_⟩) ?_ ?_
      rotate_left
      · intro w'
        go_simp
        with_reducible rfl
      rotate_left
      · simp only [Act.put, List.setIfInBounds_toArray, List.set_cons_zero, List.set_cons_succ, i64_w, i32_w]
        rfl
      refine pure_ (i := 5) (N := some 21) (v := ?_) (a' := ?_) #[true, true, true, true, false, true, false, false, false, false, false, false, false, false, false, false, false, false, false] rfl rfl (by kernel_rfl) (fun _ _ _ h => h) (Or.inl ⟨by rfl, ?_⟩) ?_ ?_
      rotate_left
      · intro w'
        go_simp
        with_reducible rfl
      rotate_left
      · simp only [Act.put, List.setIfInBounds_toArray, List.set_cons_zero, List.set_cons_succ, i64_w, i32_w]
        rfl
      refine pure_ (i := 6) (N := some 22) (v := ?_) (a' := ?_) #[true, true, true, true, false, true, true, false, false, false, false, false, false, false, false, false, false, false, false] rfl rfl (by kernel_rfl) (fun _ _ _ h => h) (Or.inl ⟨by rfl, ?_⟩) ?_ ?_
      rotate_left
      · intro w'
        go_simp
        with_reducible rfl
      rotate_left
      · simp only [Act.put, List.setIfInBounds_toArray, List.set_cons_zero, List.set_cons_succ, i64_w, i32_w]
        rfl
      refine pure_ (i := 7) (N := some 23) (v := ?_) (a' := ?_) #[true, true, true, true, false, true, true, true, false, false, false, false, false, false, false, false, false, false, false] rfl rfl (by kernel_rfl) (fun _ _ _ h => h) (Or.inl ⟨by rfl, ?_⟩) ?_ ?_
      rotate_left
      · intro w'
        go_simp
        with_reducible rfl
      rotate_left
      · simp only [Act.put, List.setIfInBounds_toArray, List.set_cons_zero, List.set_cons_succ, i64_w, i32_w]
        rfl
      refine pure_ (i := 9) (N := some 25) (v := ?_) (a' := ?_) #[true, true, true, true, false, true, true, true, false, true, false, false, false, false, false, false, false, false, false] rfl rfl (by kernel_rfl) (fun _ _ _ h => h) (Or.inl ⟨by rfl, ?_⟩) ?_ ?_
      rotate_left
      · intro w'
        go_simp
        with_reducible rfl
      rotate_left
      · simp only [Act.put, List.setIfInBounds_toArray, List.set_cons_zero, List.set_cons_succ, i64_w, i32_w]
        rfl
      refine pure_ (i := 10) (N := some 26) (v := ?_) (a' := ?_) #[true, true, true, true, false, true, true, true, false, true, true, false, false, false, false, false, false, false, false] rfl rfl (by kernel_rfl) (fun _ _ _ h => h) (Or.inl ⟨by rfl, ?_⟩) ?_ ?_
      rotate_left
      · intro w'
        go_simp
        with_reducible rfl
      rotate_left
      · simp only [Act.put, List.setIfInBounds_toArray, List.set_cons_zero, List.set_cons_succ, i64_w, i32_w]
        rfl
      refine pure_ (i := 11) (N := some 27) (v := ?_) (a' := ?_) #[true, true, true, true, false, true, true, true, false, true, true, true, false, false, false, false, false, false, false] rfl rfl (by kernel_rfl) (fun _ _ _ h => h) (Or.inl ⟨by rfl, ?_⟩) ?_ ?_
      rotate_left
      · intro w'
        go_simp
        with_reducible rfl
      rotate_left
      · simp only [Act.put, List.setIfInBounds_toArray, List.set_cons_zero, List.set_cons_succ, i64_w, i32_w]
        rfl
      refine pure_ (i := 13) (N := some 29) (v := ?_) (a' := ?_) #[true, true, true, true, false, true, true, true, false, true, true, true, false, true, false, false, false, false, false] rfl rfl (by kernel_rfl) (fun _ _ _ h => h) (Or.inl ⟨by rfl, ?_⟩) ?_ ?_
      rotate_left
      · intro w'
        go_simp
        with_reducible rfl
      rotate_left
      · simp only [Act.put, List.setIfInBounds_toArray, List.set_cons_zero, List.set_cons_succ, i64_w, i32_w]
        rfl
      refine pure_ (i := 17) (N := some 33) (v := ?_) (a' := ?_) #[true, true, true, true, false, true, true, true, false, true, true, true, false, true, false, false, false, true, false] rfl rfl (by kernel_rfl) (fun _ _ _ h => h) (Or.inl ⟨by rfl, ?_⟩) ?_ ?_
      rotate_left
      · intro w'
        go_simp
        with_reducible rfl
      rotate_left
      · simp only [Act.put, List.setIfInBounds_toArray, List.set_cons_zero, List.set_cons_succ, i64_w, i32_w]
        rfl
      refine take_ (i := 4) (N := some 20) (v := ?_) (a' := ?_) #[true, true, true, true, true, true, true, true, false, true, true, true, false, true, false, false, false, true, false] rfl rfl (by kernel_rfl) (fun _ _ _ h => h) (Or.inl ⟨by rfl, ?_⟩) hHeld ?_ ?_
      rotate_left
      · rintro w' ⟨s0, s1⟩
        go_simp
        with_reducible rfl
      rotate_left
      · simp only [Act.put, List.setIfInBounds_toArray, List.set_cons_zero, List.set_cons_succ, i64_w, i32_w]
        rfl
      refine take_ (i := 8) (N := some 24) (v := ?_) (a' := ?_) #[true, true, true, true, true, true, true, true, true, true, true, true, false, true, false, false, false, true, false] rfl rfl (by kernel_rfl) (fun _ _ _ h => h) (Or.inl ⟨by rfl, ?_⟩) hHeld ?_ ?_
      rotate_left
      · rintro w' ⟨s0, s1⟩
        go_simp
        with_reducible rfl
      rotate_left
      · simp only [Act.put, List.setIfInBounds_toArray, List.set_cons_zero, List.set_cons_succ, i64_w, i32_w]
        rfl
      refine take_ (i := 12) (N := some 28) (v := ?_) (a' := ?_) #[true, true, true, true, true, true, true, true, true, true, true, true, true, true, false, false, false, true, false] rfl rfl (by kernel_rfl) (fun _ _ _ h => h) (Or.inl ⟨by rfl, ?_⟩) hHeld ?_ ?_
      rotate_left
      · rintro w' ⟨s0, s1⟩
        go_simp
        with_reducible rfl
      rotate_left
      · simp only [Act.put, List.setIfInBounds_toArray, List.set_cons_zero, List.set_cons_succ, i64_w, i32_w]
        rfl
      refine pure_ (i := 14) (N := some 30) (v := ?_) (a' := ?_) #[true, true, true, true, true, true, true, true, true, true, true, true, true, true, true, false, false, true, false] rfl rfl (by kernel_rfl) (fun _ _ _ h => h) (Or.inl ⟨by rfl, ?_⟩) ?_ ?_
      rotate_left
      · intro w'
        go_simp
        with_reducible rfl
      rotate_left
      · simp only [Act.put, List.setIfInBounds_toArray, List.set_cons_zero, List.set_cons_succ, i64_w, i32_w]
        rfl
      refine pure_ (i := 15) (N := some 31) (v := ?_) (a' := ?_) #[true, true, true, true, true, true, true, true, true, true, true, true, true, true, true, true, false, true, false] rfl rfl (by kernel_rfl) (fun _ _ _ h => h) (Or.inl ⟨by rfl, ?_⟩) ?_ ?_
      rotate_left
      · intro w'
        go_simp
        with_reducible rfl
      rotate_left
      · simp only [Act.put, List.setIfInBounds_toArray, List.set_cons_zero, List.set_cons_succ, i64_w, i32_w]
        rfl
      refine one_ (i := 16) (N := some 32) #[true, true, true, true, true, true, true, true, true, true, true, true, true, true, true, true, true, true, false] rfl rfl (by kernel_rfl) (by decide) (fun K hK => ?_)
      refine goes_ Tryd.func62 (by kernel_rfl) rfl #[.string (s.extract i (i + n))] (by rfl) rfl rfl (by simp only [List.map_toArray, List.map_cons, List.map_nil]; rfl) ?_
      with_reducible refine (kind_any (s.extract i (i + n)) _ (by simp; omega) (Keys.below HKe.out (below_drewNd w _))).mono ?_
      rintro e w2 ⟨rfl, hb2⟩
      refine ⟨_, rfl, ?_⟩
      refine hK.out _ _ ⟨((hb2.cell (p := ⟨g, 0, none⟩) hgl).trans hc0), ((hb2.cell (p := ⟨g, 1, none⟩) hgl).trans hc1)⟩ (fun hHeld => ?_)
      clear hK K
      refine norm_ (a' := ?_) ?_ ?_
      rotate_left
      · show Act.put _ (some 32) _ = _
        simp only [Act.put, List.setIfInBounds_toArray, List.set_cons_zero, List.set_cons_succ, i64_w, i32_w]
        rfl
      refine last_ (i := 18) (N := some 34) #[true, true, true, true, true, true, true, true, true, true, true, true, true, true, true, true, true, true, true] rfl rfl (by kernel_rfl) (by decide) (fun K hK => ?_)
      refine goes_ Tryd.func77 (by kernel_rfl) rfl #[.pointer (some ⟨g, 0, none⟩), .int .i64 (kindOf (s.extract i (i + n))), .int .i64 n, .int .u32 0] (by rfl) rfl rfl (by simp only [List.map_toArray, List.map_cons, List.map_nil]; rfl) ?_
      with_reducible refine (token_any B g s i n line col _ 0 l bad _ hs hn2 hl hl0 hl1 hk0 hk1 (LexAt.of_grown (LexAt.of_grown HA.out (below_drewNd w _)) hb2)).mono ?_
      rintro e w3 ⟨rfl, hA3, hb3⟩
      refine ⟨_, rfl, ?_⟩
      refine hK.out _ _ ?_
      clear hK K
      refine norm_ (a' := ?_) ?_ ?_
      rotate_left
      · show Act.put _ (some 34) _ = _
        simp only [Act.put, List.setIfInBounds_toArray, List.set_cons_zero, List.set_cons_succ, i64_w, i32_w]
        rfl
      refine done_ (by kernel_rfl) ?_
      go_wp2
      go_ret
      exact ⟨rfl, by rw [Hwl.out]; exact hn2, by rw [Hwl.out]; exact hA3, below_trans' ((below_drewNd w _).mono (Nat.le_trans hBg (Nat.le_of_lt hgl))) (Nat.le_trans hBg (Nat.le_of_lt hgl)) hb2 hb3⟩
end Go.Proofs.YtnjnadlgndjnbaaDoor.Lx
