/- Plain law, no program in sight: the library's way of counting digits by fields (at numbers below 2^40) gives the number of digits 1. -/
import Derived.WalkKit
namespace Go.Proofs.Ytindhmgfadipnaa
set_option linter.unusedVariables false
namespace Pop

/-- the digits 1 among the first k -/
def pc : Nat → Nat → Nat
  | 0, _ => 0
  | k + 1, m => m % 2 + pc k (m / 2)

theorem and_split (w a b : Nat) : a &&& b = 2 ^ w * ((a / 2 ^ w) &&& (b / 2 ^ w)) + ((a % 2 ^ w) &&& (b % 2 ^ w)) := by
  have h1 : (a &&& b) / 2 ^ w = (a / 2 ^ w) &&& (b / 2 ^ w) := Nat.and_div_two_pow
  have h2 : (a &&& b) % 2 ^ w = (a % 2 ^ w) &&& (b % 2 ^ w) := Nat.and_mod_two_pow
  rw [← h1, ← h2]; exact (Nat.div_add_mod _ _).symm

theorem and16 (q r M k : Nat) (hr : r < 16) (hk : k < 16) : (16 * q + r) &&& (16 * M + k) = 16 * (q &&& M) + (r &&& k) := by
  have h := and_split 4 (16 * q + r) (16 * M + k)
  rw [show (2 : Nat) ^ 4 = 16 by decide] at h
  rw [h, show (16 * q + r) / 16 = q by omega, show (16 * M + k) / 16 = M by omega, show (16 * q + r) % 16 = r by omega, show (16 * M + k) % 16 = k by omega]

theorem and256 (q r M : Nat) (hr : r < 256) : (256 * q + r) &&& (256 * M + 15) = 256 * (q &&& M) + r % 16 := by
  have h := and_split 8 (256 * q + r) (256 * M + 15)
  rw [show (2 : Nat) ^ 8 = 256 by decide] at h
  rw [h, show (256 * q + r) / 256 = q by omega, show (256 * M + 15) / 256 = M by omega, show (256 * q + r) % 256 = r by omega, show (256 * M + 15) % 256 = 15 by omega]
  congr 1
  have := Nat.and_two_pow_sub_one_eq_mod r 4
  simpa using this

def mk (d : Nat) : Nat → Nat
  | 0 => 0
  | k + 1 => 16 * mk d k + d

def mk2 : Nat → Nat
  | 0 => 0
  | k + 1 => 256 * mk2 k + 15

def aN (r : Nat) : Nat := ((r / 2) &&& 5) + (r &&& 5)

def bN (r : Nat) : Nat := ((r / 4) &&& 3) + (r &&& 3)

def pn (r : Nat) : Nat := bN (aN r)

def fA (k m : Nat) : Nat := (m / 2 &&& mk 5 k) + (m &&& mk 5 k)

def fB (k m : Nat) : Nat := (m / 4 &&& mk 3 k) + (m &&& mk 3 k)

theorem t5 : ∀ e, e < 2 → ∀ t, t < 8 → (8 * e + t) &&& 5 = t &&& 5 := by decide

theorem t3 : ∀ e, e < 4 → ∀ t, t < 4 → (4 * e + t) &&& 3 = t &&& 3 := by decide

theorem aN_lt : ∀ r, r < 16 → aN r < 16 := by decide

theorem pn_le : ∀ r, r < 16 → pn r ≤ 4 := by decide

theorem pn_bits : ∀ r, r < 16 → pn r = r % 2 + (r / 2 % 2 + (r / 4 % 2 + r / 8 % 2)) := by decide

theorem fA_step (k q r : Nat) (hr : r < 16) : fA (k + 1) (16 * q + r) = 16 * fA k q + aN r := by
  unfold fA aN
  simp only [mk]
  rw [show (16 * q + r) / 2 = 16 * (q / 2) + (8 * (q % 2) + r / 2) by omega, and16 _ _ _ _ (by omega) (by omega), and16 _ _ _ _ hr (by omega), t5 _ (by omega) _ (by omega)]
  omega

theorem fB_step (k q r : Nat) (hr : r < 16) : fB (k + 1) (16 * q + r) = 16 * fB k q + bN r := by
  unfold fB bN
  simp only [mk]
  rw [show (16 * q + r) / 4 = 16 * (q / 4) + (4 * (q % 4) + r / 4) by omega, and16 _ _ _ _ (by omega) (by omega), and16 _ _ _ _ hr (by omega), t3 _ (by omega) _ (by omega)]
  omega

def Q : Nat → Nat → Nat
  | 0, _ => 0
  | k + 1, m => 16 * Q k (m / 16) + pn (m % 16)

theorem fBA (k : Nat) : ∀ m, fB k (fA k m) = Q k m := by
  induction k with
  | zero => intro m; simp [fB, mk, Q]
  | succ k ih =>
    intro m
    have e : m = 16 * (m / 16) + m % 16 := (Nat.div_add_mod m 16).symm
    have h : fA (k + 1) m = 16 * fA k (m / 16) + aN (m % 16) := by
      conv => lhs; rw [e]
      exact fA_step k _ _ (by omega)
    rw [h, fB_step k _ _ (aN_lt _ (by omega)), ih]
    rfl

def Z : Nat → Nat → Nat
  | 0, _ => 0
  | k + 1, z => 256 * Z k (z / 256) + z % 16

theorem andZ (k : Nat) : ∀ z, z &&& mk2 k = Z k z := by
  induction k with
  | zero => intro z; simp [mk2, Z]
  | succ k ih =>
    intro z
    have e : z = 256 * (z / 256) + z % 256 := (Nat.div_add_mod z 256).symm
    simp only [mk2, Z]
    conv => lhs; rw [e]
    rw [and256 _ _ _ (by omega), ih]
    omega

def R : Nat → Nat → Nat
  | 0, _ => 0
  | k + 1, m => 256 * R k (m / 256) + (pn (m % 16) + pn (m / 16 % 16))

theorem Q_mod (k m : Nat) : Q k m % 16 ≤ 4 := by
  cases k with
  | zero => simp [Q]
  | succ k => have := pn_le (m % 16) (by omega); simp only [Q]; omega

theorem ZQ (k : Nat) : ∀ m, Z k (Q (2 * k) m / 16 + Q (2 * k) m) = R k m := by
  induction k with
  | zero => intro m; rfl
  | succ k ih =>
    intro m
    have e : Q (2 * (k + 1)) m = 16 * (16 * Q (2 * k) (m / 256) + pn (m / 16 % 16)) + pn (m % 16) := by
      rw [show 2 * (k + 1) = (2 * k + 1) + 1 by omega]
      simp only [Q]
      rw [Nat.div_div_eq_div_mul]
    have h1 := pn_le (m / 16 % 16) (by omega)
    have h2 := pn_le (m % 16) (by omega)
    have h3 := Q_mod (2 * k) (m / 256)
    have ih' := ih (m / 256)
    rw [e]
    generalize Q (2 * k) (m / 256) = S at *
    generalize hp1 : pn (m / 16 % 16) = p1 at *
    generalize hp0 : pn (m % 16) = p0 at *
    simp only [Z, R]
    rw [hp0, hp1, show ((16 * (16 * S + p1) + p0) / 16 + (16 * (16 * S + p1) + p0)) / 256 = S / 16 + S by omega, ih', show ((16 * (16 * S + p1) + p0) / 16 + (16 * (16 * S + p1) + p0)) % 16 = p0 + p1 by omega]

theorem pc4 (k m : Nat) : pc (k + 4) m = pn (m % 16) + pc k (m / 16) := by
  rw [pn_bits _ (by omega)]
  simp only [pc, Nat.div_div_eq_div_mul, Nat.reduceMul]
  omega

/-- the whole count -/
def swar (m : Nat) : Nat :=
  let s1 := ((m / 2) &&& 6148914691236517205) + (m &&& 6148914691236517205)
  let s2 := ((s1 / 4) &&& 3689348814741910323) + (s1 &&& 3689348814741910323)
  let f := (s2 / 16 + s2) &&& 1085102592571150095
  let g := f + f / 256
  let h := g + g / 65536
  (h + h / 4294967296) % 128

theorem m5 : 6148914691236517205 = mk 5 16 := by decide

theorem m3 : 3689348814741910323 = mk 3 16 := by decide

theorem m15 : 1085102592571150095 = mk2 8 := by decide

theorem R8 (m : Nat) (hm : m < 1099511627776) : ∃ c0 c1 c2 c3 c4, c0 ≤ 8 ∧ c1 ≤ 8 ∧ c2 ≤ 8 ∧ c3 ≤ 8 ∧ c4 ≤ 8 ∧ R 8 m = c0 + 256 * (c1 + 256 * (c2 + 256 * (c3 + 256 * c4))) ∧ pc 40 m = c0 + c1 + c2 + c3 + c4 := by
  have z : pn 0 = 0 := by decide
  have b : ∀ x, pn (x % 16) ≤ 4 := fun x => pn_le _ (by omega)
  refine ⟨pn (m % 16) + pn (m / 16 % 16), pn (m / 256 % 16) + pn (m / 256 / 16 % 16), pn (m / 256 / 256 % 16) + pn (m / 256 / 256 / 16 % 16), pn (m / 256 / 256 / 256 % 16) + pn (m / 256 / 256 / 256 / 16 % 16),
    pn (m / 256 / 256 / 256 / 256 % 16) + pn (m / 256 / 256 / 256 / 256 / 16 % 16), ?_, ?_, ?_, ?_, ?_, ?_, ?_⟩
  · have := b m; have := b (m / 16); omega
  · have := b (m / 256); have := b (m / 256 / 16); omega
  · have := b (m / 256 / 256); have := b (m / 256 / 256 / 16); omega
  · have := b (m / 256 / 256 / 256); have := b (m / 256 / 256 / 256 / 16); omega
  · have := b (m / 256 / 256 / 256 / 256); have := b (m / 256 / 256 / 256 / 256 / 16); omega
  · have e5 : m / 256 / 256 / 256 / 256 / 256 = 0 := by omega
    simp only [R, e5, Nat.zero_div, Nat.zero_mod, z]
    omega
  · clear b z
    have a10 : ∀ x, pc 0 x = 0 := fun _ => rfl
    have a0 : pc 40 (m) = pn ((m) % 16) + pc 36 (m / 16) := pc4 36 _
    have a1 : pc 36 (m / 16) = pn ((m / 16) % 16) + pc 32 (m / 16 / 16) := pc4 32 _
    have a2 : pc 32 (m / 16 / 16) = pn ((m / 16 / 16) % 16) + pc 28 (m / 16 / 16 / 16) := pc4 28 _
    have a3 : pc 28 (m / 16 / 16 / 16) = pn ((m / 16 / 16 / 16) % 16) + pc 24 (m / 16 / 16 / 16 / 16) := pc4 24 _
    have a4 : pc 24 (m / 16 / 16 / 16 / 16) = pn ((m / 16 / 16 / 16 / 16) % 16) + pc 20 (m / 16 / 16 / 16 / 16 / 16) := pc4 20 _
    have a5 : pc 20 (m / 16 / 16 / 16 / 16 / 16) = pn ((m / 16 / 16 / 16 / 16 / 16) % 16) + pc 16 (m / 16 / 16 / 16 / 16 / 16 / 16) := pc4 16 _
    have a6 : pc 16 (m / 16 / 16 / 16 / 16 / 16 / 16) = pn ((m / 16 / 16 / 16 / 16 / 16 / 16) % 16) + pc 12 (m / 16 / 16 / 16 / 16 / 16 / 16 / 16) := pc4 12 _
    have a7 : pc 12 (m / 16 / 16 / 16 / 16 / 16 / 16 / 16) = pn ((m / 16 / 16 / 16 / 16 / 16 / 16 / 16) % 16) + pc 8 (m / 16 / 16 / 16 / 16 / 16 / 16 / 16 / 16) := pc4 8 _
    have a8 : pc 8 (m / 16 / 16 / 16 / 16 / 16 / 16 / 16 / 16) = pn ((m / 16 / 16 / 16 / 16 / 16 / 16 / 16 / 16) % 16) + pc 4 (m / 16 / 16 / 16 / 16 / 16 / 16 / 16 / 16 / 16) := pc4 4 _
    have a9 : pc 4 (m / 16 / 16 / 16 / 16 / 16 / 16 / 16 / 16 / 16) = pn ((m / 16 / 16 / 16 / 16 / 16 / 16 / 16 / 16 / 16) % 16) + pc 0 (m / 16 / 16 / 16 / 16 / 16 / 16 / 16 / 16 / 16 / 16) := pc4 0 _
    rw [a10] at a9
    simp only [Nat.div_div_eq_div_mul, Nat.reduceMul] at *
    omega

theorem fin (c0 c1 c2 c3 c4 F : Nat) (h0 : c0 ≤ 8) (h1 : c1 ≤ 8) (h2 : c2 ≤ 8) (h3 : c3 ≤ 8) (h4 : c4 ≤ 8) (hF : F = c0 + 256 * (c1 + 256 * (c2 + 256 * (c3 + 256 * c4)))) :
    (F + F / 256 + (F + F / 256) / 65536 + (F + F / 256 + (F + F / 256) / 65536) / 4294967296) % 128 = c0 + c1 + c2 + c3 + c4 := by
  have e1 : F / 256 = c1 + 256 * (c2 + 256 * (c3 + 256 * c4)) := by omega
  rw [e1]
  have e2 : (F + (c1 + 256 * (c2 + 256 * (c3 + 256 * c4)))) / 65536 = (c2 + c3) + 256 * (c3 + c4) + 65536 * c4 := by omega
  rw [e2]
  have e3 : (F + (c1 + 256 * (c2 + 256 * (c3 + 256 * c4))) + ((c2 + c3) + 256 * (c3 + c4) + 65536 * c4)) / 4294967296 = c4 := by omega
  rw [e3]
  omega

theorem swar_eq (m : Nat) (hm : m < 1099511627776) : swar m = pc 40 m := by
  obtain ⟨c0, c1, c2, c3, c4, h0, h1, h2, h3, h4, hR, hp⟩ := R8 m hm
  have e1 : ((m / 2) &&& 6148914691236517205) + (m &&& 6148914691236517205) = fA 16 m := by rw [m5]; rfl
  have e2 : ((fA 16 m / 4) &&& 3689348814741910323) + (fA 16 m &&& 3689348814741910323) = Q 16 m := by rw [m3]; exact fBA 16 m
  have e3 : (Q 16 m / 16 + Q 16 m) &&& 1085102592571150095 = R 8 m := by rw [m15, andZ]; exact ZQ 8 m
  unfold swar
  simp only [e1, e2, e3, hp]
  exact fin c0 c1 c2 c3 c4 _ h0 h1 h2 h3 h4 hR

end Pop

end Go.Proofs.Ytindhmgfadipnaa
