/-
Small helps: what omega, simp, decide and the kernel find by themselves. No conditions.
-/
import Derived.WalkKit
import Derived.WalkSpells
set_option linter.all false
namespace Go.Proofs.YtlhedpgobaellaaGreatDoor
theorem or{P:Prop}(h:P:=by omega):P:=h
theorem Zm{P:Prop}(h:P:=by simp):P:=h
theorem ZM{P:Prop}(h:P:=by decide):P:=h
theorem Zz{P:Prop}(h:P:=by kernel_rfl):P:=h
end Go.Proofs.YtlhedpgobaellaaGreatDoor
