/- A few values of the plain functions, reckoned by the kernel. -/
import Derived.Test.YtcjagjganiigiaaDoorSumM
namespace Go.Proofs.YtcjagjganiigiaaDoor.Sm
theorem val_crc : crc [49, 50, 51, 52, 53, 54, 55, 56, 57] = 3808858755#32 := by decide +kernel
theorem val_crc0 : crc [] = 0#32 := by decide +kernel
theorem val_sha : hex (sha [97, 98, 99]) = [98, 97, 55, 56, 49, 54, 98, 102, 56, 102, 48, 49, 99, 102, 101, 97, 52, 49, 52, 49, 52, 48, 100, 101, 53, 100, 97, 101, 50, 50, 50, 51, 98, 48, 48, 51, 54, 49, 97, 51, 57, 54, 49, 55, 55, 97, 57, 99, 98, 52, 49, 48, 102, 102, 54, 49, 102, 50, 48, 48, 49, 53, 97, 100] := by decide +kernel
theorem val_hex : hex [97, 122] = [54, 49, 55, 97] := by decide +kernel
theorem val_unhex1 : unhex [54, 49, 55, 97] = ([97, 122], true) := by decide +kernel
theorem val_unhex2 : unhex [54, 49, 55, 65] = ([], false) := by decide +kernel
theorem val_unhex3 : unhex [54, 49, 55] = ([], false) := by decide +kernel
theorem val_num1 : num [255, 255, 255, 255, 255, 255, 255, 255] = 2305843009213693951 := by decide +kernel
theorem val_num2 : num [128] = 1152921504606846976 := by decide +kernel
theorem val_num3 : num [] = 0 := by decide +kernel
end Go.Proofs.YtcjagjganiigiaaDoor.Sm
