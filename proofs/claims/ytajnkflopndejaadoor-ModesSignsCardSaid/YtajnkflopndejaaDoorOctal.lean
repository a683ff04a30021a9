/- strconv.FormatInt at base 8, four digits; modes.Octal. -/
import Derived.Laws.Bits128
import Derived.Test.YtajnkflopndejaaDoorRead
namespace Go.Proofs.YtajnkflopndejaaDoor.L
open Go.RowKit Go.Shelf Go.Proofs.YtajnkflopndejaaDoorW.PrintWords

theorem i64_and511 (n : Int) : bits .and .i64 n 511 = n % 512 := by
  have h127 : (BitVec.ofInt 64 511).toNat = 2 ^ 9 - 1 := by decide
  have key : (BitVec.ofInt 64 n &&& BitVec.ofInt 64 511).toNat = (n % ((2 ^ 64 : Nat) : Int)).toNat % 2 ^ 9 := by
    rw [BitVec.toNat_and, BitVec.toNat_ofInt, h127, Nat.and_two_pow_sub_one_eq_mod]
  show IntKind.i64.wrap ((BitVec.ofInt 64 n &&& BitVec.ofInt 64 511).toNat : Nat) = n % 512
  rw [key, IntKind.wrap_i64]
  omega
theorem wraps_u64 (n : Int) (h₀ : 0 ≤ n) (h₁ : n < 2 ^ 20) : IntKind.u64.wrap n = n := by rw [IntKind.wrap_u64]; omega
theorem u64_and7 (x : Int) (h0 : 0 ≤ x) (h1 : x < 2 ^ 20) : bits .and .u64 x 7 = x % 8 := bits_mask .u64 20 (by decide) wraps_u64 3 (by decide) x h0 h1

set_option maxHeartbeats 4000000 in
theorem pow2_8 (w : World) : Calls Tryd.prog 63 #[.int .i64 8] w fun e w' => e = .returned (.bool true) ∧ w' = w := by
  go_enter Tryd.func63, Tryd.ntmps63
  have h : bits .and .i64 8 7 = 0 := by decide
  go_wp2
  go_ret
  exact ⟨rfl, rfl⟩
set_option maxHeartbeats 4000000 in
theorem tz64_8 (w : World) (G : Glob w) : Calls Tryd.prog 75 #[.int .u64 8] w fun e w' => e = .returned (.int .i64 3) ∧ w' = w := by
  have h : bits .and .u64 8 (IntKind.u64.wrap (-8)) = 8 := by decide
  have hm : IntKind.u64.wrap (8 * 285870213051353865) = 2286961704410830920 := by decide
  have hc := G.tab
  go_enter Tryd.func75, Tryd.ntmps75
  go_wp2
  go_ret
  exact ⟨rfl, rfl⟩
set_option maxHeartbeats 4000000 in
theorem tz_8 (w : World) (G : Glob w) : Calls Tryd.prog 64 #[.int .u64 8] w fun e w' => e = .returned (.int .i64 3) ∧ w' = w := by
  go_enter Tryd.func64, Tryd.ntmps64
  go_wp2_with (go_at_call 75; refine (tz64_8 _ G).mono ?_; rintro e w' ⟨rfl, rfl⟩)
  go_ret
  exact ⟨rfl, rfl⟩
theorem run_index_dig {P : Program} (w : World) (t : TypeId) (k : IntKind) (i : Int) (h : P.underlying t = some .string) (h0 : 0 ≤ i) (h1 : i < 8) :
    (Instr.index t (.string ⟨#[48, 49, 50, 51, 52, 53, 54, 55, 56, 57, 97, 98, 99, 100, 101, 102, 103, 104, 105, 106, 107, 108, 109, 110, 111, 112, 113, 114, 115, 116, 117, 118, 119, 120, 121, 122]⟩) (.int k i)).run P w = .ok (.int .u8 (48 + i)) w := by
  rw [run_index_string w t _ k i h]
  have : i = 0 ∨ i = 1 ∨ i = 2 ∨ i = 3 ∨ i = 4 ∨ i = 5 ∨ i = 6 ∨ i = 7 := by omega
  rcases this with rfl | rfl | rfl | rfl | rfl | rfl | rfl | rfl <;> rfl
attribute [local go_sem high] run_index_dig

def octDigits (u : Nat) : List Int := [48 + ((u / 512 % 8 : Nat) : Int), 48 + ((u / 64 % 8 : Nat) : Int), 48 + ((u / 8 % 8 : Nat) : Int), 48 + ((u % 8 : Nat) : Int)]
/-- Between two rounds: j digits are written. -/
def DigSt (w wr : World) (u j : Nat) (x m : Int) : Prop :=
  x = ((u / 8 ^ j : Nat) : Int) ∧ m = 65 - (j : Int) ∧ (∃ cs : Array Value, wr.heap[w.heap.size]? = some (.cells cs 97 (0, 0)) ∧ cs.size = 65 ∧ ∀ i : Nat, i < j → cs[64 - i]? = some (.int .u8 (48 + ((u / 8 ^ i % 8 : Nat) : Int)))) ∧ Below w.heap.size w wr
theorem DigSt.cell {w wr : World} {u j : Nat} {x m : Int} (h : DigSt w wr u j x m) (hj : j ≤ 3) : ∃ v, wr.cell? ⟨w.heap.size, 64 - j, none⟩ = some v ∧ wr.frozen? ⟨w.heap.size, 64 - j, none⟩ = false := by
  obtain ⟨_, _, ⟨cs, hcs, hsz, _⟩, _⟩ := h
  exact ⟨cs[64 - j]'(by omega), by simp [World.cell?, hcs, show 64 - j < cs.size by omega], by simp [World.frozen?, hcs]⟩
theorem DigSt.put {w wr : World} {u j : Nat} {x m : Int} (h : DigSt w wr u j x m) (hj : j ≤ 3) (y : Int) (hy : y = 48 + ((u / 8 ^ j % 8 : Nat) : Int)) (x' m' : Int) (hx : x' = ((u / 8 ^ (j + 1) : Nat) : Int)) (hm : m' = 65 - ((j + 1 : Nat) : Int)) :
    DigSt w (wr.setCell ⟨w.heap.size, 64 - j, none⟩ (.int .u8 y)) u (j + 1) x' m' := by
  obtain ⟨_, _, ⟨cs, hcs, hsz, hd⟩, hb⟩ := h
  refine ⟨hx, hm, ⟨cs.setIfInBounds (64 - j) (.int .u8 y), ?_, by simpa using hsz, fun i hi => ?_⟩, hb.setCell (p := ⟨w.heap.size, 64 - j, none⟩) (Nat.le_refl _) _⟩
  · simp [World.setCell, Array.getElem?_modify, hcs]
  · by_cases he : i = j
    · subst he
      simp [hsz, show 64 - i < 65 by omega, hy]
    · rw [Array.getElem?_setIfInBounds_ne (by omega)]
      exact hd i (by omega)

theorem DigSt.reads {w wr : World} {u : Nat} {x m : Int} (h : DigSt w wr u 4 x m) : ReadsInt wr .u8 (some ⟨w.heap.size, 61, none⟩) 4 (octDigits u) := by
  obtain ⟨_, _, ⟨cs, hcs, hsz, hd⟩, _⟩ := h
  have e0 := hd 0 (by omega)
  have e1 := hd 1 (by omega)
  have e2 := hd 2 (by omega)
  have e3 := hd 3 (by omega)
  simp only [Nat.pow_zero, Nat.div_one, Nat.reducePow, Nat.reduceSub] at e0 e1 e2 e3
  refine ⟨rfl, by decide, fun _ => ⟨_, rfl, fun j hj => ?_⟩⟩
  have : j = 0 ∨ j = 1 ∨ j = 2 ∨ j = 3 := by omega
  rcases this with rfl | rfl | rfl | rfl
  · simp [World.cell?, Addr.add, hcs, e3, octDigits]
  · simp [World.cell?, Addr.add, hcs, e2, octDigits]
  · simp [World.cell?, Addr.add, hcs, e1, octDigits]
  · simp [World.cell?, Addr.add, hcs, e0, octDigits]

set_option maxHeartbeats 8000000 in
set_option maxRecDepth 100000 in
theorem formatBits8 (u : Nat) (h0 : 512 ≤ u) (h1 : u < 1024) (w : World) (G : Glob w) :
    Calls Tryd.prog 45 #[.slice none 0 0, .int .u64 (u : Int), .int .i64 8, .bool false, .bool false] w fun e w' => e = .returned (.tuple #[.slice none 0 0, .string (strOfNums (octDigits u))]) ∧ Below w.heap.size w w' := by
  go_enter Tryd.func45, Tryd.ntmps45
  go_wp2_with (first
    | (go_at_call 63; refine (pow2_8 _).mono ?_; rintro e w' ⟨rfl, rfl⟩)
    | (go_at_call 64; refine (tz_8 _ (G.below ((Below.refl _ w).alloc (Nat.le_refl _) _))).mono ?_; rintro e w' ⟨rfl, rfl⟩))
  go_loopw [1, 13] (fun vu vi wr => ∃ (j : Nat) (x m : Int), j ≤ 3 ∧ vu = .int .u64 x ∧ vi = .int .i64 m ∧ Hid (DigSt w wr u j x m)) (fun vu _ _ => (intOf vu).toNat)
  case atStart => exact ⟨0, u, 65, by omega, rfl, rfl, Lib.hid ⟨by simp, by simp, ⟨_, heap_alloc_new w _, by kernel_rfl, fun i h => absurd h (by omega)⟩, (Below.refl _ w).alloc (Nat.le_refl _) _⟩⟩
  case round =>
    obtain ⟨j, x, m, hj, rfl, rfl, HS⟩ := hrel
    obtain ⟨v, hcell, hfr⟩ := HS.out.cell hj
    have hs := HS.out
    obtain ⟨hx, hm, _, _⟩ := hs
    have hj' : j = 0 ∨ j = 1 ∨ j = 2 ∨ j = 3 := by omega
    rcases hj' with rfl | rfl | rfl | rfl
    · obtain rfl : m = 65 := by omega
      have hx8 : 8 ≤ x := by omega
      have hxl : x < 1024 := by omega
      have HX := Lib.hid hx
      clear hx hm hj
      have hb7 := u64_and7 x (by omega) (by omega)
      have hm0 : 0 ≤ x % 8 := by omega
      have hm1 : x % 8 < 8 := by omega
      go_wp2
      have hx := HX.out
      exact ⟨⟨1, x / 8, 64, by omega, rfl, rfl, Lib.hid (HS.out.put (by omega) _ (by omega) _ _ (by omega) (by omega))⟩, by simp [intOf]; omega⟩
    · obtain rfl : m = 64 := by omega
      have hx8 : 8 ≤ x := by omega
      have hxl : x < 1024 := by omega
      have HX := Lib.hid hx
      clear hx hm hj
      have hb7 := u64_and7 x (by omega) (by omega)
      have hm0 : 0 ≤ x % 8 := by omega
      have hm1 : x % 8 < 8 := by omega
      go_wp2
      have hx := HX.out
      exact ⟨⟨2, x / 8, 63, by omega, rfl, rfl, Lib.hid (HS.out.put (by omega) _ (by omega) _ _ (by omega) (by omega))⟩, by simp [intOf]; omega⟩
    · obtain rfl : m = 63 := by omega
      have hx8 : 8 ≤ x := by omega
      have hxl : x < 1024 := by omega
      have HX := Lib.hid hx
      clear hx hm hj
      have hb7 := u64_and7 x (by omega) (by omega)
      have hm0 : 0 ≤ x % 8 := by omega
      have hm1 : x % 8 < 8 := by omega
      go_wp2
      have hx := HX.out
      exact ⟨⟨3, x / 8, 62, by omega, rfl, rfl, Lib.hid (HS.out.put (by omega) _ (by omega) _ _ (by omega) (by omega))⟩, by simp [intOf]; omega⟩
    · obtain rfl : m = 62 := by omega
      obtain rfl : x = 1 := by omega
      have HF := HS.out.put (x' := 0) (m' := 61) (by omega) 49 (by omega) (by omega) (by omega)
      have hcv := string_of_reads (c := 4) Tryd.underlying32 Tryd.underlying5 Tryd.underlying9 HF.reads
      have HB := Lib.hid HF.2.2.2
      clear hx hm hj HF
      go_wp2
      go_ret2
      exact ⟨rfl, HB.out⟩

set_option maxHeartbeats 8000000 in
set_option maxRecDepth 100000 in
theorem format8i (u : Nat) (h0 : 512 ≤ u) (h1 : u < 1024) (w : World) (G : Glob w) :
    Calls Tryd.prog 26 #[.int .i64 (u : Int), .int .i64 8] w fun e w' => e = .returned (.string (strOfNums (octDigits u))) ∧ Below w.heap.size w w' := by
  have hc : IntKind.u64.wrap (u : Int) = (u : Int) := wraps_u64 _ (by omega) (by omega)
  go_enter Tryd.func26, Tryd.ntmps26
  go_wp2_with (go_at_call 45; refine (formatBits8 u h0 h1 _ G).mono ?_; rintro e w' ⟨rfl, hb⟩)
  go_ret
  exact ⟨rfl, hb⟩
set_option maxHeartbeats 8000000 in
theorem format8 (u : Nat) (h0 : 512 ≤ u) (h1 : u < 1024) (w : World) (G : Glob w) :
    Calls Tryd.prog 18 #[.int .i64 (u : Int), .int .i64 8] w fun e w' => e = .returned (.string (strOfNums (octDigits u))) ∧ Below w.heap.size w w' := by
  go_enter Tryd.func18, Tryd.ntmps18
  go_wp2_with (go_at_call 26; refine (format8i u h0 h1 _ G).mono ?_; rintro e w' ⟨rfl, hb⟩)
  go_ret
  exact ⟨rfl, hb⟩

/-- The three digits. -/
def octStr (n : Nat) : ByteArray := strOfNums [48 + ((n / 64 % 8 : Nat) : Int), 48 + ((n / 8 % 8 : Nat) : Int), 48 + ((n % 8 : Nat) : Int)]
def modes_Octal.f (a0 : Int) : Option ByteArray := some (octStr (a0 % 512).toNat)
theorem octDigits_drop (u : Nat) : (strOfNums (octDigits u)).extract 1 (strOfNums (octDigits u)).size = strOfNums ((octDigits u).drop 1) := rfl
set_option maxHeartbeats 8000000 in
theorem modes_Octal.calls (a0 : Int) (r : ByteArray) (w : World) (h : modes_Octal.f a0 = some r) (G : Glob w) :
    Calls Tryd.prog 9 #[.int .i64 a0] w fun e w' => e = .returned (.string r) ∧ Below w.heap.size w w' := by
  cases h
  have hand := i64_and511 a0
  obtain ⟨n, hn⟩ : ∃ n : Nat, a0 % 512 = (n : Int) := ⟨(a0 % 512).toNat, by omega⟩
  have hn1 : n < 512 := by omega
  have hcast : (n : Int) + 511 + 1 = ((n + 512 : Nat) : Int) := by omega
  rw [hn] at hand ⊢
  have hcall := fun W g => format8 (n + 512) (by omega) (by omega) W g
  rw [← hcast] at hcall
  have hsz : (strOfNums (octDigits (n + 512))).size = 4 := rfl
  have hdr : (strOfNums (octDigits (n + 512))).extract 1 4 = octStr ((n : Int)).toNat := by
    refine (octDigits_drop (n + 512)).trans ?_
    simp only [octDigits, octStr, List.drop_succ_cons, List.drop_zero, Int.toNat_natCast]
    rw [show (n + 512) / 64 % 8 = n / 64 % 8 by omega, show (n + 512) / 8 % 8 = n / 8 % 8 by omega, show (n + 512) % 8 = n % 8 by omega]
  obtain ⟨sd, hsd⟩ : ∃ sd, strOfNums (octDigits (n + 512)) = sd := ⟨_, rfl⟩
  rw [hsd] at hsz hdr hcall
  go_enter Tryd.func9, Tryd.ntmps9
  go_wp2_with (go_at_call 18; refine (hcall _ G).mono ?_; rintro e w' ⟨rfl, hb⟩)
  go_ret
  exact ⟨rfl, hb⟩
end Go.Proofs.YtajnkflopndejaaDoor.L
