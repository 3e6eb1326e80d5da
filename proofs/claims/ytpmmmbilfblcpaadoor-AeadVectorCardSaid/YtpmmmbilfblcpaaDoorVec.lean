/- The standard's vector: what is sealed there, by the kernel's own reckoning. -/
import Derived.Test.YtpmmmbilfblcpaaDoorAeC
import Derived.KernelRfl
namespace Go.Proofs.YtpmmmbilfblcpaaDoor
open Go.RowKit Go.Cour
def vK : List Int := [128, 129, 130, 131, 132, 133, 134, 135, 136, 137, 138, 139, 140, 141, 142, 143, 144, 145, 146, 147, 148, 149, 150, 151, 152, 153, 154, 155, 156, 157, 158, 159]
def vN : List Int := [7, 0, 0, 0, 64, 65, 66, 67, 68, 69, 70, 71]
def vA : List Int := [80, 81, 82, 83, 192, 193, 194, 195, 196, 197, 198, 199]
def vT : List Int := [76, 97, 100, 105, 101, 115, 32, 97, 110, 100, 32, 71, 101, 110, 116, 108, 101, 109, 101, 110, 32, 111, 102, 32, 116, 104, 101, 32, 99, 108, 97, 115, 115, 32, 111, 102, 32, 39, 57, 57, 58, 32, 73, 102, 32, 73, 32, 99, 111, 117, 108, 100, 32, 111, 102, 102, 101, 114, 32, 121, 111, 117, 32, 111, 110, 108, 121, 32, 111, 110, 101, 32, 116, 105, 112, 32, 102, 111, 114, 32, 116, 104, 101, 32, 102, 117, 116, 117, 114, 101, 44, 32, 115, 117, 110, 115, 99, 114, 101, 101, 110, 32, 119, 111, 117, 108, 100, 32, 98, 101, 32, 105, 116, 46]
def vC : List Int := [211, 26, 141, 52, 100, 142, 96, 219, 123, 134, 175, 188, 83, 239, 126, 194, 164, 173, 237, 81, 41, 110, 8, 254, 169, 226, 181, 167, 54, 238, 98, 214, 61, 190, 164, 94, 140, 169, 103, 18, 130, 250, 251, 105, 218, 146, 114, 139, 26, 113, 222, 10, 158, 6, 11, 41, 5, 214, 165, 182, 126, 205, 59, 54, 146, 221, 189, 127, 45, 119, 139, 140, 152, 3, 174, 227, 40, 9, 27, 88, 250, 179, 36, 228, 250, 214, 117, 148, 85, 133, 128, 139, 72, 49, 215, 188, 63, 244, 222, 240, 142, 75, 122, 157, 229, 118, 210, 101, 134, 206, 198, 75, 97, 22]
def vG : List Int := [26, 225, 11, 89, 79, 9, 226, 106, 126, 144, 46, 203, 208, 96, 6, 145]
def vB0 : List Int := [123, 172, 43, 37, 45, 180, 71, 175, 9, 182, 122, 85, 164, 233, 85, 132, 10, 225, 214, 115, 16, 117, 217, 235, 42, 147, 117, 120, 62, 213, 83, 255, 162, 126, 204, 222, 173, 219, 77, 180, 209, 23, 156, 228, 201, 11, 67, 216, 188, 183, 148, 140, 75, 75, 125, 139, 125, 246, 39, 57, 50, 164, 105, 22]
def vB1 : List Int := [159, 123, 233, 93, 1, 253, 64, 186, 21, 226, 143, 251, 54, 129, 10, 174, 193, 192, 136, 63, 9, 1, 110, 222, 221, 138, 208, 135, 85, 130, 3, 165, 78, 158, 203, 56, 172, 142, 94, 43, 184, 218, 178, 15, 250, 219, 82, 232, 117, 4, 178, 110, 190, 105, 109, 79, 96, 164, 133, 207, 17, 184, 27, 89]
def vB2 : List Int := [252, 177, 196, 95, 66, 25, 238, 172, 236, 106, 222, 195, 78, 102, 105, 120, 142, 219, 65, 196, 156, 163, 1, 225, 39, 224, 172, 171, 59, 68, 185, 207, 92, 134, 187, 149, 224, 107, 13, 242, 144, 26, 182, 69, 228, 171, 230, 34, 21, 56, 12, 3, 206, 53, 108, 215, 166, 118, 99, 251, 221, 239, 255, 100]
set_option maxRecDepth 100000 in
theorem vec_block0 : block vK 0 vN = vB0 := by kernel_rfl
set_option maxRecDepth 100000 in
theorem vec_block1 : block vK 1 vN = vB1 := by kernel_rfl
set_option maxRecDepth 100000 in
theorem vec_block2 : block vK 2 vN = vB2 := by kernel_rfl
theorem xorTo_by (key : List Int) (c : Int) (nonce xs : List Int) (f : Nat → Int) : ∀ n, (∀ i, i < n → xorByte key c nonce xs i = f i) → xorTo key c nonce xs n = (List.range n).foldl (fun o i => o.set i (f i)) (List.replicate xs.length 0)
  | 0, _ => rfl
  | n + 1, h => by
    rw [xorTo_succ, foldl_succ, xorTo_by key c nonce xs f n (fun i hi => h i (by omega)), h n (by omega)]
def vF (i : Nat) : Int := bits .xor .u8 (rd vT i) (rd (if i < 64 then vB1 else vB2) (i % 64))
theorem vec_byte (i : Nat) (h : i < 114) : xorByte vK 1 vN vT i = vF i := by
  unfold xorByte vF
  by_cases hi : i < 64
  · have e1 : ctr 1 (i / 64) = 1 := by unfold ctr; omega
    rw [e1, vec_block1, if_pos hi]
  · have e1 : ctr 1 (i / 64) = 2 := by unfold ctr; omega
    rw [e1, vec_block2, if_neg hi]
set_option maxRecDepth 100000 in
theorem vec_fold : (List.range 114).foldl (fun o i => o.set i (vF i)) (List.replicate 114 0) = vC := by kernel_rfl
theorem vec_xor : xorStream vK 1 vN vT = vC := (xorTo_by vK 1 vN vT vF 114 vec_byte).trans vec_fold
set_option maxRecDepth 100000 in
theorem vec_poly : polySum (vB0.take 32) (tagText vA vC) = vG := by kernel_rfl
theorem vec_seal : sealText vK vN vA vT = vC ++ vG := by rw [sealText, vec_xor, tagOf, vec_block0, vec_poly]
end Go.Proofs.YtpmmmbilfblcpaaDoor
