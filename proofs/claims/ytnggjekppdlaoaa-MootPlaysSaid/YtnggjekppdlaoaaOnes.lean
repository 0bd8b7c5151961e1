/- math/bits.OnesCount32. -/
import Derived.Test.YtnggjekppdlaoaaFa
import Derived.Test.YtnggjekppdlaoaaOwn
import Derived.Test.YtnggjekppdlaoaaBits2
namespace Go.Proofs.Ytnggjekppdlaoaa
open Go Go.RowKit Go.VC
set_option linter.unusedSimpArgs false
set_option linter.unusedVariables false

/-- How many bits are set. -/
def ones (x : Nat) : Nat := (List.range 32).countP fun i => x.testBit i
def ones8 (x : Nat) : Nat := (List.range 8).countP fun i => x.testBit i
theorem ones8_le (x : Nat) : ones8 x ≤ 8 := by
  have := List.countP_le_length (p := fun i => x.testBit i) (l := List.range 8)
  simpa [ones8] using this
theorem ones_split (x : Nat) (hx : x < 4294967296) : ones x = ones8 (x / 2 ^ 24) + ones8 (x / 2 ^ 16 % 256) + ones8 (x / 2 ^ 8 % 256) + ones8 (x % 256) := by
  have e : List.range 32 = List.range 8 ++ (List.range 8).map (8 + ·) ++ (List.range 8).map (16 + ·) ++ (List.range 8).map (24 + ·) := by decide
  have h : ∀ j, (List.range 8).countP ((fun i => x.testBit i) ∘ (j + ·)) = ones8 (x / 2 ^ j % 256) := fun j => by
    unfold ones8
    refine List.countP_congr fun i hi => ?_
    have hi : i < 8 := List.mem_range.1 hi
    have : (x / 2 ^ j % 2 ^ 8).testBit i = x.testBit (j + i) := by rw [Nat.testBit_mod_two_pow, Nat.testBit_div_two_pow]; simp [hi]; rw [Nat.add_comm]
    show x.testBit (j + i) = true ↔ (x / 2 ^ j % 2 ^ 8).testBit i = true
    rw [this]
  have h0 := h 0
  have h24 := h 24
  rw [show x / 2 ^ 24 % 256 = x / 2 ^ 24 from Nat.mod_eq_of_lt (by omega)] at h24
  rw [show x / 2 ^ 0 % 256 = x % 256 by rw [Nat.pow_zero, Nat.div_one]] at h0
  have h0' : List.countP (fun i => x.testBit i) (List.range 8) = ones8 (x % 256) := by
    rw [← h0]; refine List.countP_congr fun i _ => ?_
    simp
  unfold ones
  rw [e, List.countP_append, List.countP_append, List.countP_append, List.countP_map, List.countP_map, List.countP_map, h 8, h 16, h24, h0']
  omega
theorem and_255 {x : Nat} (hx : x < 4294967296) : bits .and .u32 (x : Int) 255 = ((x % 256 : Nat) : Int) := by
  have e := u32_and_nat x 255 hx (by omega)
  rw [show ((255 : Nat) : Int) = 255 from rfl] at e
  rw [e, show (255 : Nat) = 2 ^ 8 - 1 from rfl, Nat.and_two_pow_sub_one_eq_mod]
theorem wrap_u8_nat {n : Nat} (h : n < 256) : IntKind.wrap .u8 (n : Int) = n := by
  simp [IntKind.wrap, IntKind.bits, IntKind.signed]; omega
theorem ones_le (x : Nat) : ones x ≤ 32 := by
  have := List.countP_le_length (p := fun i => x.testBit i) (l := List.range 32)
  simpa [ones] using this

set_option maxRecDepth 20000 in
set_option maxHeartbeats 2000000 in
theorem ones_any (x : Nat) (w : World) (hx : x < 4294967296) :
    Calls Try.prog 72 #[.int .u32 x] w fun e w' => e = .returned (.int .i64 (ones x)) ∧ Below w.heap.size w w' := by
  refine calls_vc (rs := [.tmp 2]) Fa.mix Try.func72 rfl Try.ntmps72 rfl (by kernel_rfl) (Nat.le_of_ble_eq_true rfl) ?_
  simp -dsimp only [Fa.F72, VC.Now, VC.vc, VC.lib, VC.regQ, VC.loopK, VC.reg, VC.opP, VC.pv, VC.thenF, VC.blkF, VC.retF, VC.resV, VC.oneV, VC.evo, VC.bin, VC.binI, VC.cmpI, VC.arithI, VC.ldv, VC.slv, VC.pickP, VC.holds, VC.chainOf, VC.look, VC.junk, VC.put, VC.eff, VC.callee, VC.pureB, VC.rdK, VC.rdKs, VC.okKs, VC.eqKs, VC.fillL, VC.putL, VC.stW, VC.stOK, VC.mixF, VC.setAll, Nat.reduceAdd, Nat.reduceSub, Nat.reduceMul, if_true, if_false, ↓reduceIte, forall_const, implies_true, reduceCtorEq, ne_eq, Nat.reduceBNe, Nat.reduceBEq, IntKind.signed, Nat.reduceEqDiff, Nat.reduceLeDiff, Nat.reduceLT, eq_self, Int.reduceEq, Int.reduceLT, Int.reduceLE, Int.reduceAdd, Int.reduceSub, VC.regC_nil, VC.regC_cons, VC.regCK_eq, VC.callQ, VC.tailQ, VC.goCall, VC.chStep]
  generalize hT : ByteArray.mk _ = T
  have hN : strN T = 256 := by rw [← hT]; decide +kernel
  have hA : ∀ b, b < 256 → strAt T (b : Nat) = (ones8 b : Nat) := by
    have : ∀ b : Fin 256, strAt T (b.val : Nat) = (ones8 b.val : Nat) := by rw [← hT]; decide +kernel
    exact fun b hb => this ⟨b, hb⟩
  have d24 : x / 2 ^ 24 < 256 := by omega
  have d16 : x / 2 ^ 16 < 4294967296 := by omega
  have d8 : x / 2 ^ 8 < 4294967296 := by omega
  have s24 := shr_eq (w := x) (n := 24) (by omega)
  have s16 := shr_eq (w := x) (n := 16) (by omega)
  have s8 := shr_eq (w := x) (n := 8) (by omega)
  rw [show (((24 : Nat) : Int)) = 24 from rfl] at s24
  rw [show (((16 : Nat) : Int)) = 16 from rfl] at s16
  rw [show (((8 : Nat) : Int)) = 8 from rfl] at s8
  rw [s24, s16, s8, and_255 d16, and_255 d8, and_255 hx, hN, hA _ d24, hA _ (Nat.mod_lt _ (by omega)), hA _ (Nat.mod_lt _ (by omega)), hA _ (Nat.mod_lt _ (by omega))]
  have l1 := ones8_le (x / 2 ^ 24)
  have l2 := ones8_le (x / 2 ^ 16 % 256)
  have l3 := ones8_le (x / 2 ^ 8 % 256)
  have l4 := ones8_le (x % 256)
  have e := ones_split x hx
  generalize ones8 (x / 2 ^ 24) = a at *
  generalize ones8 (x / 2 ^ 16 % 256) = b at *
  generalize ones8 (x / 2 ^ 8 % 256) = c at *
  generalize ones8 (x % 256) = d at *
  have m1 := Nat.mod_lt (x / 2 ^ 16) (show 0 < 256 by omega)
  have m2 := Nat.mod_lt (x / 2 ^ 8) (show 0 < 256 by omega)
  have m3 := Nat.mod_lt x (show 0 < 256 by omega)
  have w1 : IntKind.wrap .u8 ((a : Int) + (b : Int)) = ((a + b : Nat) : Int) := by rw [show (a : Int) + (b : Int) = ((a + b : Nat) : Int) by omega, wrap_u8_nat (by omega)]
  have w2 : IntKind.wrap .u8 (((a + b : Nat) : Int) + (c : Int)) = ((a + b + c : Nat) : Int) := by rw [show ((a + b : Nat) : Int) + (c : Int) = ((a + b + c : Nat) : Int) by omega, wrap_u8_nat (by omega)]
  have w3 : IntKind.wrap .u8 (((a + b + c : Nat) : Int) + (d : Int)) = ((a + b + c + d : Nat) : Int) := by rw [show ((a + b + c : Nat) : Int) + (d : Int) = ((a + b + c + d : Nat) : Int) by omega, wrap_u8_nat (by omega)]
  rw [w1, w2, w3, ← e]
  exact ⟨⟨by omega, by omega⟩, ⟨by omega, by omega⟩, ⟨by omega, by omega⟩, ⟨by omega, by omega⟩, fits_i64 (by omega) (by omega), fun _ => ⟨rfl, below_drewN (Below.refl _ _) _⟩⟩
end Go.Proofs.Ytnggjekppdlaoaa
