
/- What RamfsFull meets, plain: computed by the kernel. -/
import Derived.Test.YtkkjbnmfjhmobaaDoorFak
import Derived.KernelRfl
namespace Go.Proofs.YtkkjbnmfjhmobaaDoor
open Go.RowKit

def bstr (s : List UInt8) : ByteArray := ⟨s.toArray⟩
def nmF (i : Nat) : ByteArray := ⟨#[47, 110, UInt8.ofNat (48 + i / 10), UInt8.ofNat (48 + i % 10)]⟩
/-- i directories made. -/
def fmk : Nat → FS
  | 0 => fsNew
  | i + 1 => ((fmk i).mkd (nmF i)).1
theorem fmk_all : ((List.range 63).all fun i => decide (((fmk i).mkd (nmF i)).2 = 0)) = true := by kernel_rfl
theorem fmk_ok {i : Nat} (h : i < 63) : (fmk i).mkd (nmF i) = (fmk (i + 1), 0) := by
  have h2 := List.all_eq_true.1 fmk_all i (List.mem_range.2 h)
  have h3 := of_decide_eq_true h2
  exact Prod.ext rfl h3
def ff0 : FS := fmk 63
def pMore : ByteArray := ⟨#[47, 109, 111, 114, 101]⟩
def pN00 : ByteArray := ⟨#[47, 110, 48, 48]⟩
def pNew : ByteArray := ⟨#[47, 110, 101, 119]⟩
theorem fe1 : ff0.mkd pMore = (ff0, 28) := by kernel_rfl
theorem fe2 : ff0.opn pMore 6 = (ff0, 0, 28) := by kernel_rfl
def ff1 : FS := (ff0.rmd pN00).1
theorem fe3 : ff0.rmd pN00 = (ff1, 0) := by kernel_rfl
/-- i descriptors opened. -/
def fop : Nat → FS
  | 0 => ff1
  | i + 1 => ((fop i).opn pMore 7).1
theorem fop_all : ((List.range 16).all fun i => decide (((fop i).opn pMore 7).2 = ((i : Int), 0))) = true := by kernel_rfl
theorem fop_ok {i : Nat} (h : i < 16) : (fop i).opn pMore 7 = (fop (i + 1), (i : Int), 0) := by
  have h2 := List.all_eq_true.1 fop_all i (List.mem_range.2 h)
  have h3 := of_decide_eq_true h2
  exact Prod.ext rfl h3
def ff2 : FS := fop 16
theorem fe4 : ff2.opn pMore 1 = (ff2, 0, 11) := by kernel_rfl
def zer : List Int := List.replicate 4096 0
def ff3 : FS := (ff2.wr 0 zer).1
set_option maxRecDepth 100000 in
theorem fe5 : ff2.wr 0 zer = (ff3, 4096, 0) := by kernel_rfl
theorem fe6 : ff3.wr 0 [1] = (ff3, 0, 28) := by kernel_rfl
def ff4 : FS := (ff3.wr 0 []).1
theorem fe7 : ff3.wr 0 [] = (ff4, 0, 0) := by kernel_rfl
theorem fe8 : ff4.sk 0 4097 0 = (ff4, 0, 22) := by kernel_rfl
theorem fe9 : ff4.sk 0 (-1) 0 = (ff4, 0, 22) := by kernel_rfl
theorem fe10 : ff4.sk 0 0 3 = (ff4, 0, 22) := by kernel_rfl
theorem fe11 : ff4.sk 0 4611686018427387904 1 = (ff4, 0, 22) := by kernel_rfl
def ff5 : FS := (ff4.cls 15).1
theorem fe12 : ff4.cls 15 = (ff5, 0) := by kernel_rfl
theorem fe13 : ff5.opn pNew 6 = (ff5, 0, 28) := by kernel_rfl
def st0 : Array Value := #[.int .i64 0, .bool false, .int .i64 0, .int .i64 0]
theorem fe14 : ff5.stt ⟨#[47, 110, 48, 49, 47, 97, 47, 98, 47, 99, 47, 100, 47, 101, 47, 102, 47, 103, 47, 104]⟩ = (st0, 22) := by kernel_rfl
theorem fe15 : ff5.stt ⟨#[47, 110, 48, 49, 47, 97, 47, 98, 47, 99, 47, 100, 47, 101, 47, 102, 47, 103]⟩ = (st0, 2) := by kernel_rfl
theorem fe16 : ff5.stt ⟨#[47, 49, 50, 51, 52, 53, 54, 55, 56, 57, 48, 49, 50, 51, 52, 53, 54, 55]⟩ = (st0, 22) := by kernel_rfl
theorem fe17 : ff5.stt ⟨#[47, 49, 50, 51, 52, 53, 54, 55, 56, 57, 48, 49, 50, 51, 52, 53, 54]⟩ = (st0, 2) := by kernel_rfl
def bads : List ByteArray := [⟨#[]⟩, ⟨#[97]⟩, ⟨#[47, 47]⟩, ⟨#[47, 97, 47]⟩, ⟨#[47, 46]⟩, ⟨#[47, 46, 46]⟩, ⟨#[47, 97, 47, 47, 98]⟩, ⟨#[47, 97, 0]⟩, ⟨#[47, 255]⟩]
theorem bad_all : (bads.all fun p => decide ((ff5.stt p).2 = 22) && decide ((ff5.mkd p).2 = 22) && decide ((ff5.lnk pMore p).2 = 22) && decide ((ff5.ren p ⟨#[47, 113]⟩).2 = 22)) = true := by kernel_rfl
theorem bad_split : (bads.all fun p => decide (splitF p = none)) = true := by kernel_rfl
theorem fe18 : ff5.rmd ⟨#[47]⟩ = (ff5, 16) := by kernel_rfl
theorem fe19 : ff5.unl ⟨#[47]⟩ = (ff5, 21) := by kernel_rfl
theorem fe20 : ff5.ren ⟨#[47, 110, 48, 49]⟩ ⟨#[47]⟩ = (ff5, 16) := by kernel_rfl
theorem fe21 : ff5.bytes = 4096 := by kernel_rfl
theorem fe22 : ff5.count = 64 := by kernel_rfl
theorem names_ff : ff0.names = 63 ∧ ff4.names = 63 ∧ ff5.names = 63 := ⟨by kernel_rfl, by kernel_rfl, by kernel_rfl⟩

end Go.Proofs.YtkkjbnmfjhmobaaDoor
