/- Calls that are known, by evaluation. -/
import Derived.Test.YtdnbnpknpejpdaaGreatDoorTihL3x0
namespace Go.Proofs.YtdnbnpknpejpdaaGreatDoor.Tih
open Go Go.Proofs.YtdnbnpknpejpdaaGreatDoor.Sw
set_option maxRecDepth 100000
theorem k161:O e161:=E ok3 (by kernel_rfl)
theorem k162:O e162:=E ok3 (by kernel_rfl)
theorem k163:O e163:=E ok3 (by kernel_rfl)
theorem k164:O e164:=E ok3 (by kernel_rfl)
theorem k165:O e165:=E ok3 (by kernel_rfl)
theorem k166:O e166:=E ok3 (by kernel_rfl)
theorem k167:O e167:=E ok3 (by kernel_rfl)
theorem k168:O e168:=E ok3 (by kernel_rfl)
theorem ok4:t4.Ok Tryz.prog gl:=⟨⟨⟨rfl,k161⟩,⟨⟨rfl,k169⟩,trivial⟩⟩,⟨⟨⟨rfl,k160⟩,trivial⟩,⟨⟨⟨rfl,k0⟩,⟨⟨rfl,k1⟩,⟨⟨rfl,k2⟩,⟨⟨rfl,k3⟩,⟨⟨rfl,k4⟩,⟨⟨rfl,k5⟩,⟨⟨rfl,k6⟩,⟨⟨rfl,k7⟩,⟨⟨rfl,k8⟩,⟨⟨rfl,k9⟩,⟨⟨rfl,k10⟩,⟨⟨rfl,k11⟩,⟨⟨rfl,k12⟩,⟨⟨rfl,k13⟩,⟨⟨rfl,k14⟩,⟨⟨rfl,k15⟩,⟨⟨rfl,k16⟩,⟨⟨rfl,k17⟩,⟨⟨rfl,k18⟩,⟨⟨rfl,k19⟩,⟨⟨rfl,k20⟩,⟨⟨rfl,k21⟩,⟨⟨rfl,k22⟩,⟨⟨rfl,k23⟩,⟨⟨rfl,k24⟩,⟨⟨rfl,k25⟩,⟨⟨rfl,k26⟩,⟨⟨rfl,k27⟩,⟨⟨rfl,k28⟩,⟨⟨rfl,k29⟩,⟨⟨rfl,k30⟩,⟨⟨rfl,k31⟩,⟨⟨rfl,k32⟩,⟨⟨rfl,k33⟩,⟨⟨rfl,k34⟩,⟨⟨rfl,k35⟩,⟨⟨rfl,k36⟩,⟨⟨rfl,k37⟩,⟨⟨rfl,k38⟩,⟨⟨rfl,k39⟩,⟨⟨rfl,k40⟩,⟨⟨rfl,k41⟩,⟨⟨rfl,k42⟩,⟨⟨rfl,k43⟩,⟨⟨rfl,k44⟩,⟨⟨rfl,k45⟩,⟨⟨rfl,k46⟩,⟨⟨rfl,k47⟩,⟨⟨rfl,k48⟩,⟨⟨rfl,k49⟩,⟨⟨rfl,k50⟩,⟨⟨rfl,k51⟩,⟨⟨rfl,k52⟩,⟨⟨rfl,k53⟩,⟨⟨rfl,k54⟩,⟨⟨rfl,k55⟩,⟨⟨rfl,k56⟩,⟨⟨rfl,k57⟩,⟨⟨rfl,k58⟩,⟨⟨rfl,k59⟩,⟨⟨rfl,k60⟩,⟨⟨rfl,k61⟩,⟨⟨rfl,k62⟩,⟨⟨rfl,k63⟩,⟨⟨rfl,k64⟩,⟨⟨rfl,k65⟩,⟨⟨rfl,k66⟩,⟨⟨rfl,k67⟩,⟨⟨rfl,k68⟩,⟨⟨rfl,k69⟩,⟨⟨rfl,k70⟩,⟨⟨rfl,k71⟩,⟨⟨rfl,k72⟩,⟨⟨rfl,k73⟩,⟨⟨rfl,k74⟩,⟨⟨rfl,k75⟩,⟨⟨rfl,k76⟩,⟨⟨rfl,k77⟩,⟨⟨rfl,k78⟩,⟨⟨rfl,k79⟩,⟨⟨rfl,k80⟩,⟨⟨rfl,k81⟩,⟨⟨rfl,k82⟩,⟨⟨rfl,k83⟩,⟨⟨rfl,k84⟩,⟨⟨rfl,k85⟩,⟨⟨rfl,k86⟩,⟨⟨rfl,k87⟩,⟨⟨rfl,k88⟩,⟨⟨rfl,k89⟩,⟨⟨rfl,k90⟩,⟨⟨rfl,k91⟩,⟨⟨rfl,k92⟩,⟨⟨rfl,k93⟩,⟨⟨rfl,k94⟩,⟨⟨rfl,k95⟩,⟨⟨rfl,k96⟩,⟨⟨rfl,k97⟩,⟨⟨rfl,k98⟩,⟨⟨rfl,k99⟩,⟨⟨rfl,k100⟩,⟨⟨rfl,k101⟩,⟨⟨rfl,k102⟩,⟨⟨rfl,k103⟩,⟨⟨rfl,k104⟩,⟨⟨rfl,k105⟩,⟨⟨rfl,k106⟩,⟨⟨rfl,k107⟩,⟨⟨rfl,k108⟩,⟨⟨rfl,k109⟩,⟨⟨rfl,k110⟩,⟨⟨rfl,k111⟩,⟨⟨rfl,k112⟩,⟨⟨rfl,k113⟩,⟨⟨rfl,k114⟩,⟨⟨rfl,k115⟩,⟨⟨rfl,k116⟩,⟨⟨rfl,k117⟩,⟨⟨rfl,k118⟩,⟨⟨rfl,k119⟩,⟨⟨rfl,k120⟩,⟨⟨rfl,k121⟩,trivial⟩⟩⟩⟩⟩⟩⟩⟩⟩⟩⟩⟩⟩⟩⟩⟩⟩⟩⟩⟩⟩⟩⟩⟩⟩⟩⟩⟩⟩⟩⟩⟩⟩⟩⟩⟩⟩⟩⟩⟩⟩⟩⟩⟩⟩⟩⟩⟩⟩⟩⟩⟩⟩⟩⟩⟩⟩⟩⟩⟩⟩⟩⟩⟩⟩⟩⟩⟩⟩⟩⟩⟩⟩⟩⟩⟩⟩⟩⟩⟩⟩⟩⟩⟩⟩⟩⟩⟩⟩⟩⟩⟩⟩⟩⟩⟩⟩⟩⟩⟩⟩⟩⟩⟩⟩⟩⟩⟩⟩⟩⟩⟩⟩⟩⟩⟩⟩⟩⟩⟩⟩⟩,trivial,trivial⟩,⟨⟨⟨rfl,k164⟩,trivial⟩,trivial,trivial⟩⟩,⟨⟨⟨rfl,k165⟩,trivial⟩,⟨⟨⟨rfl,k155⟩,⟨⟨rfl,k156⟩,⟨⟨rfl,k157⟩,⟨⟨rfl,k162⟩,⟨⟨rfl,k166⟩,trivial⟩⟩⟩⟩⟩,trivial,trivial⟩,trivial⟩⟩
end Go.Proofs.YtdnbnpknpejpdaaGreatDoor.Tih
