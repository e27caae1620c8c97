/- slices.Clone of a row of texts: what it hands over (by the contract of the library's shelf). -/
import Derived.Test.YtdpfpdejipkffaaK3
import Derived.Test.YtdpfpdejipkffaaProg
import Derived.KernelRfl
import Derived.Shelf.Slices.Clone
namespace Go.Ab
open Go.Proofs Go.Shelf
def ρClone : Ren := ⟨fun _ => 63, fun n => match n with | 24 => 22 | n => n, fun n => n⟩
theorem lays_Clone : Lays2.n16 Try.prog ρClone := {
  mixed := by kernel_rfl,
  f16 := by kernel_rfl,
  t4 := by kernel_rfl,
  a4 := fun w => by kernel_rfl,
  z4 := fun w => by kernel_rfl,
  v4 := fun w => by kernel_rfl,
  t9 := by kernel_rfl,
  a9 := fun w => by kernel_rfl,
  z9 := fun w => by kernel_rfl,
  v9 := fun w => by kernel_rfl,
  t24 := by kernel_rfl,
  a24 := fun w => by kernel_rfl,
  z24 := fun w => by kernel_rfl,
  v24 := fun w => by kernel_rfl,
  i9 := by kernel_rfl }
theorem clone_prim : ∀ ts r, cloneP ts = some r → CallOK Try.prog 63 ts r := by
  refine cloneP_ok (t := 9) (f := 63) (fun n c w => ?_) (fun a c w => ?_) (fun b off n c zs w hz hbig hc => ?_)
  · exact Any.slices_Clone_string_nil lays_Clone n c w
  · exact Any.slices_Clone_string_zero lays_Clone a c w
  · exact Any.slices_Clone_string lays_Clone b off n c zs w hz hbig hc
def A_clone : AFunc := ⟨1, [], .skip, some cloneP⟩
end Go.Ab
