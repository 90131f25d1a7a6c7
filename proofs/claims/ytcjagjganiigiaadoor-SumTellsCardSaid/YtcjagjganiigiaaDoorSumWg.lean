/- The walk of agoralaw03.small: it answers true. -/
import Derived.Test.YtcjagjganiigiaaDoorSumWf
import Derived.Test.YtcjagjganiigiaaDoorSumN
namespace Go.Proofs.YtcjagjganiigiaaDoor
open Go.RowKit Sm
theorem c_crc1 (w : World) : Calls Tryd.prog 12 #[.string ⟨#[49, 50, 51, 52, 53, 54, 55, 56, 57]⟩] w fun e w' => e = .returned (w32 3808858755#32) ∧ w = w' := by
  have h := crc_any ⟨#[49, 50, 51, 52, 53, 54, 55, 56, 57]⟩ w (by decide)
  rw [show crc (⟨#[49, 50, 51, 52, 53, 54, 55, 56, 57]⟩ : ByteArray).data.toList = 3808858755#32 from val_crc] at h
  exact h
theorem c_crc0 (w : World) : Calls Tryd.prog 12 #[.string ⟨#[]⟩] w fun e w' => e = .returned (w32 0#32) ∧ w = w' := by
  have h := crc_any ⟨#[]⟩ w (by decide)
  rw [show crc (⟨#[]⟩ : ByteArray).data.toList = 0#32 from val_crc0] at h
  exact h
theorem c_num1 (w : World) : Calls Tryd.prog 18 #[.string ⟨#[255, 255, 255, 255, 255, 255, 255, 255]⟩] w fun e w' => e = .returned (.int .i64 2305843009213693951) ∧ w = w' := by
  have h := num_any ⟨#[255, 255, 255, 255, 255, 255, 255, 255]⟩ w (by decide)
  rw [show num (⟨#[255, 255, 255, 255, 255, 255, 255, 255]⟩ : ByteArray).data.toList = 2305843009213693951 from val_num1] at h
  exact h
theorem c_num2 (w : World) : Calls Tryd.prog 18 #[.string ⟨#[128]⟩] w fun e w' => e = .returned (.int .i64 1152921504606846976) ∧ w = w' := by
  have h := num_any ⟨#[128]⟩ w (by decide)
  rw [show num (⟨#[128]⟩ : ByteArray).data.toList = 1152921504606846976 from val_num2] at h
  exact h
theorem c_num3 (w : World) : Calls Tryd.prog 18 #[.string ⟨#[]⟩] w fun e w' => e = .returned (.int .i64 0) ∧ w = w' := by
  have h := num_any ⟨#[]⟩ w (by decide)
  rw [show num (⟨#[]⟩ : ByteArray).data.toList = 0 from val_num3] at h
  exact h
theorem c_un1 (w : World) : Calls Tryd.prog 10 #[.string ⟨#[54, 49, 55, 97]⟩] w fun e w' => e = .returned (.tuple #[.string ⟨#[97, 122]⟩, .bool true]) ∧ Below w.heap.size w w' := by
  have h := unhex_any ⟨#[54, 49, 55, 97]⟩ w (by decide)
  rw [show unhex (⟨#[54, 49, 55, 97]⟩ : ByteArray).data.toList = ([97, 122], true) from val_unhex1] at h
  exact h
theorem c_un2 (w : World) : Calls Tryd.prog 10 #[.string ⟨#[54, 49, 55, 65]⟩] w fun e w' => e = .returned (.tuple #[.string ⟨#[]⟩, .bool false]) ∧ Below w.heap.size w w' := by
  have h := unhex_any ⟨#[54, 49, 55, 65]⟩ w (by decide)
  rw [show unhex (⟨#[54, 49, 55, 65]⟩ : ByteArray).data.toList = ([], false) from val_unhex2] at h
  exact h
theorem c_un3 (w : World) : Calls Tryd.prog 10 #[.string ⟨#[54, 49, 55]⟩] w fun e w' => e = .returned (.tuple #[.string ⟨#[]⟩, .bool false]) ∧ Below w.heap.size w w' := by
  have h := unhex_any ⟨#[54, 49, 55]⟩ w (by decide)
  rw [show unhex (⟨#[54, 49, 55]⟩ : ByteArray).data.toList = ([], false) from val_unhex3] at h
  exact h
theorem sha_length (l : List UInt8) : (sha l).length = 32 := rfl
theorem c_hex1 (w : World) : Calls Tryd.prog 16 #[.string ⟨#[97, 122]⟩] w fun e w' => e = .returned (.string ⟨#[54, 49, 55, 97]⟩) ∧ Below w.heap.size w w' := by
  have h := hex_any ⟨#[97, 122]⟩ w (by decide)
  rw [show hex (⟨#[97, 122]⟩ : ByteArray).data.toList = [54, 49, 55, 97] from val_hex] at h
  exact h
theorem c_hex2 (w : World) : Calls Tryd.prog 16 #[.string ⟨(sha [97, 98, 99]).toArray⟩] w fun e w' => e = .returned (.string ⟨#[98, 97, 55, 56, 49, 54, 98, 102, 56, 102, 48, 49, 99, 102, 101, 97, 52, 49, 52, 49, 52, 48, 100, 101, 53, 100, 97, 101, 50, 50, 50, 51, 98, 48, 48, 51, 54, 49, 97, 51, 57, 54, 49, 55, 55, 97, 57, 99, 98, 52, 49, 48, 102, 102, 54, 49, 102, 50, 48, 48, 49, 53, 97, 100]⟩) ∧ Below w.heap.size w w' := by
  have h := hex_any ⟨(sha [97, 98, 99]).toArray⟩ w (by show (sha [97, 98, 99]).toArray.size ≤ _; rw [List.size_toArray, sha_length]; omega)
  rw [show (⟨(sha [97, 98, 99]).toArray⟩ : ByteArray).data.toList = sha [97, 98, 99] from rfl, val_sha] at h
  exact h
theorem c_sha (w : World) (hT : Tabs w) : Calls Tryd.prog 14 #[.string ⟨#[97, 98, 99]⟩] w fun e w' => e = .returned (.string ⟨(sha [97, 98, 99]).toArray⟩) ∧ Below w.heap.size w w' := sha_any ⟨#[97, 98, 99]⟩ w (by decide) hT
theorem q32a : eq32 3808858755#32 3808858755#32 = true := by decide
theorem q32b : eq32 0#32 0#32 = true := by decide
set_option maxRecDepth 100000 in
set_option maxHeartbeats 1000000 in
theorem small_any (w : World) (hT : Tabs w) : Calls Tryd.prog 9 #[] w fun e w' => e = .returned (.bool true) ∧ Below w.heap.size w w' := by
  have HT := Veil.mk hT; clear hT
  have q1 := q32a
  have q2 := q32b
  generalize hA : sha [97, 98, 99] = A
  have hs : ∀ w : World, Tabs w → Calls Tryd.prog 14 #[.string ⟨#[97, 98, 99]⟩] w fun e w' => e = .returned (.string ⟨A.toArray⟩) ∧ Below w.heap.size w w' := by rw [← hA]; exact c_sha
  have hx : ∀ w : World, Calls Tryd.prog 16 #[.string ⟨A.toArray⟩] w fun e w' => e = .returned (.string ⟨#[98, 97, 55, 56, 49, 54, 98, 102, 56, 102, 48, 49, 99, 102, 101, 97, 52, 49, 52, 49, 52, 48, 100, 101, 53, 100, 97, 101, 50, 50, 50, 51, 98, 48, 48, 51, 54, 49, 97, 51, 57, 54, 49, 55, 55, 97, 57, 99, 98, 52, 49, 48, 102, 102, 54, 49, 102, 50, 48, 48, 49, 53, 97, 100]⟩) ∧ Below w.heap.size w w' := by rw [← hA]; exact c_hex2
  clear hA
  have Hs := Veil.mk hs
  have Hx := Veil.mk hx
  clear hs hx
  go_enter Tryd.func9, Tryd.ntmps9
  go_wp2_with fail
  refine (c_un1 _).mono ?_
  rintro e w1 ⟨rfl, b1⟩
  go_wp2_with fail
  refine (c_un2 _).mono ?_
  rintro e w2 ⟨rfl, b2⟩
  go_wp2_with fail
  refine (c_un3 _).mono ?_
  rintro e w3 ⟨rfl, b3⟩
  go_wp2_with fail
  refine (c_crc1 _).mono ?_
  rintro e w' ⟨rfl, rfl⟩
  go_wp2_with fail
  refine (c_crc0 _).mono ?_
  rintro e w' ⟨rfl, rfl⟩
  go_wp2_with fail
  have B3 := (b1.trans (b2.mono b1.size)).trans (b3.mono (b1.trans (b2.mono b1.size)).size)
  refine (Hs.out _ (HT.out.below B3 (Nat.le_refl _))).mono ?_
  rintro e w4 ⟨rfl, b4⟩
  go_wp2_with fail
  refine (Hx.out _).mono ?_
  rintro e w5 ⟨rfl, b5⟩
  have B4 := B3.trans (b4.mono B3.size)
  have B5 := B4.trans (b5.mono B4.size)
  clear b1 b2 b3 b4 b5 B3 B4
  go_wp2_with fail
  refine (c_hex1 _).mono ?_
  rintro e w6 ⟨rfl, b6⟩
  have B6 := B5.trans (b6.mono B5.size)
  go_wp2_with fail
  refine (c_num1 _).mono ?_
  rintro e w' ⟨rfl, rfl⟩
  go_wp2_with fail
  refine (c_num2 _).mono ?_
  rintro e w' ⟨rfl, rfl⟩
  go_wp2_with fail
  refine (c_num3 _).mono ?_
  rintro e w' ⟨rfl, rfl⟩
  go_wp2
  go_ret
  exact ⟨rfl, B6⟩
end Go.Proofs.YtcjagjganiigiaaDoor
