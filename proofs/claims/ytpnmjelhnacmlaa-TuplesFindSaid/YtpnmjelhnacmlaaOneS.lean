/- The goals and tuples of the statements (chapters 2, 23): plain words. -/
import Derived.Test.YtpnmjelhnacmlaaNamB
namespace Go.V
open Go.Proofs Go.RowKit
def spaceS (n : Nat) : ByteArray := match n % 3 with
  | 0 => ⟨#[100, 111, 99]⟩
  | 1 => ⟨#[102, 111, 108, 100, 101, 114]⟩
  | _ => ⟨#[103, 114, 111, 117, 112]⟩
def idS (n : Nat) : ByteArray := match n % 5 with
  | 0 => ⟨#[97]⟩
  | 1 => ⟨#[98]⟩
  | 2 => ⟨#[99, 49]⟩
  | 3 => ⟨#[100]⟩
  | _ => ⟨#[114, 111, 111, 116]⟩
def relS (n : Nat) : ByteArray := match n % 4 with
  | 0 => ⟨#[118, 105, 101, 119, 101, 114]⟩
  | 1 => ⟨#[101, 100, 105, 116, 111, 114]⟩
  | 2 => ⟨#[109, 101, 109, 98, 101, 114]⟩
  | _ => ⟨#[112, 97, 114, 101, 110, 116]⟩
theorem spaceS_ok (n : Nat) : chk (spaceS n) = 0 ∧ (spaceS n).size ≤ 16 := by
  unfold spaceS
  split <;> decide +kernel
theorem idS_ok (n : Nat) : chk (idS n) = 0 ∧ (idS n).size ≤ 16 := by
  unfold idS
  split <;> decide +kernel
theorem relS_ok (n : Nat) : chk (relS n) = 0 ∧ (relS n).size ≤ 16 := by
  unfold relS
  split <;> decide +kernel
/-- A goal of sixty. -/
def goalS (n : Nat) : (ByteArray × ByteArray) × ByteArray := ((spaceS n, idS (n / 3)), relS (n / 15))
theorem goalS_ok (n : Nat) : allE [(goalS n).1.1, (goalS n).1.2, (goalS n).2] = 0 := by
  simp only [allE, goalS, (spaceS_ok _).1, (idS_ok _).1, (relS_ok _).1, if_pos]
theorem goalS_size (n : Nat) : (goalS n).1.1.size ≤ 16 ∧ (goalS n).1.2.size ≤ 16 ∧ (goalS n).2.size ≤ 16 := ⟨(spaceS_ok _).2, (idS_ok _).2, (relS_ok _).2⟩
end Go.V
