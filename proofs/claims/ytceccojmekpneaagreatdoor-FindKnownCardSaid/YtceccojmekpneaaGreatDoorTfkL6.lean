/- Known calls, by evaluation. -/
import Derived.Test.YtceccojmekpneaaGreatDoorTfkL5
namespace Go.Proofs.YtceccojmekpneaaGreatDoor.Tfk
open Go Go.Proofs.YtceccojmekpneaaGreatDoor.Sw
set_option maxRecDepth 100000
theorem k190 : e190.Ok Tryz.prog gl := ent_ok (rd := []) ok6 fine (imp := imp) (k := 1000000) (n := 60) (by kernel_rfl)
theorem k191 : e191.Ok Tryz.prog gl := ent_ok (rd := []) ok6 fine (imp := imp) (k := 1000000) (n := 60) (by kernel_rfl)
theorem k192 : e192.Ok Tryz.prog gl := ent_ok (rd := []) ok6 fine (imp := imp) (k := 1000000) (n := 60) (by kernel_rfl)
theorem k193 : e193.Ok Tryz.prog gl := ent_ok (rd := []) ok6 fine (imp := imp) (k := 1000000) (n := 60) (by kernel_rfl)
theorem k194 : e194.Ok Tryz.prog gl := ent_ok (rd := []) ok6 fine (imp := imp) (k := 1000000) (n := 60) (by kernel_rfl)
theorem k195 : e195.Ok Tryz.prog gl := ent_ok (rd := []) ok6 fine (imp := imp) (k := 1000000) (n := 60) (by kernel_rfl)
theorem ok7 : t7.Ok Tryz.prog gl := ⟨⟨⟨rfl, k52⟩, trivial⟩, ⟨⟨⟨rfl, k51⟩, trivial⟩, ⟨⟨⟨rfl, k184⟩, ⟨⟨rfl, k185⟩, ⟨⟨rfl, k186⟩, ⟨⟨rfl, k187⟩, ⟨⟨rfl, k188⟩, ⟨⟨rfl, k189⟩, ⟨⟨rfl, k190⟩, ⟨⟨rfl, k191⟩, ⟨⟨rfl, k192⟩, trivial⟩⟩⟩⟩⟩⟩⟩⟩⟩, ⟨⟨⟨rfl, k4⟩, ⟨⟨rfl, k11⟩, ⟨⟨rfl, k22⟩, ⟨⟨rfl, k36⟩, trivial⟩⟩⟩⟩, ⟨⟨⟨rfl, k34⟩, ⟨⟨rfl, k54⟩, trivial⟩⟩, trivial, trivial⟩, ⟨⟨⟨rfl, k53⟩, ⟨⟨rfl, k55⟩, trivial⟩⟩, trivial, trivial⟩⟩, ⟨⟨⟨rfl, k32⟩, trivial⟩, ⟨⟨⟨rfl, k72⟩, trivial⟩, trivial, trivial⟩, trivial⟩⟩, ⟨⟨⟨rfl, k31⟩, ⟨⟨rfl, k35⟩, trivial⟩⟩, ⟨⟨⟨rfl, k137⟩, ⟨⟨rfl, k138⟩, ⟨⟨rfl, k142⟩, ⟨⟨rfl, k143⟩, ⟨⟨rfl, k149⟩, ⟨⟨rfl, k150⟩, ⟨⟨rfl, k171⟩, ⟨⟨rfl, k174⟩, ⟨⟨rfl, k183⟩, trivial⟩⟩⟩⟩⟩⟩⟩⟩⟩, ⟨⟨⟨rfl, k173⟩, ⟨⟨rfl, k182⟩, trivial⟩⟩, trivial, trivial⟩, trivial⟩, ⟨⟨⟨rfl, k21⟩, trivial⟩, ⟨⟨⟨rfl, k193⟩, ⟨⟨rfl, k194⟩, ⟨⟨rfl, k195⟩, trivial⟩⟩⟩, trivial, trivial⟩, trivial⟩⟩⟩, ⟨⟨⟨rfl, k116⟩, ⟨⟨rfl, k117⟩, ⟨⟨rfl, k118⟩, ⟨⟨rfl, k119⟩, ⟨⟨rfl, k120⟩, ⟨⟨rfl, k121⟩, ⟨⟨rfl, k122⟩, ⟨⟨rfl, k123⟩, ⟨⟨rfl, k124⟩, ⟨⟨rfl, k125⟩, ⟨⟨rfl, k126⟩, ⟨⟨rfl, k127⟩, ⟨⟨rfl, k128⟩, ⟨⟨rfl, k129⟩, ⟨⟨rfl, k130⟩, ⟨⟨rfl, k131⟩, ⟨⟨rfl, k132⟩, ⟨⟨rfl, k133⟩, ⟨⟨rfl, k134⟩, trivial⟩⟩⟩⟩⟩⟩⟩⟩⟩⟩⟩⟩⟩⟩⟩⟩⟩⟩⟩, ⟨⟨⟨rfl, k152⟩, ⟨⟨rfl, k153⟩, ⟨⟨rfl, k154⟩, ⟨⟨rfl, k155⟩, ⟨⟨rfl, k156⟩, ⟨⟨rfl, k157⟩, ⟨⟨rfl, k158⟩, ⟨⟨rfl, k159⟩, ⟨⟨rfl, k160⟩, ⟨⟨rfl, k161⟩, ⟨⟨rfl, k162⟩, ⟨⟨rfl, k163⟩, ⟨⟨rfl, k164⟩, ⟨⟨rfl, k165⟩, ⟨⟨rfl, k166⟩, ⟨⟨rfl, k167⟩, ⟨⟨rfl, k168⟩, ⟨⟨rfl, k169⟩, ⟨⟨rfl, k170⟩, trivial⟩⟩⟩⟩⟩⟩⟩⟩⟩⟩⟩⟩⟩⟩⟩⟩⟩⟩⟩, ⟨⟨⟨rfl, k1⟩, ⟨⟨rfl, k2⟩, ⟨⟨rfl, k6⟩, ⟨⟨rfl, k7⟩, ⟨⟨rfl, k9⟩, ⟨⟨rfl, k10⟩, ⟨⟨rfl, k13⟩, ⟨⟨rfl, k14⟩, ⟨⟨rfl, k15⟩, ⟨⟨rfl, k17⟩, ⟨⟨rfl, k18⟩, ⟨⟨rfl, k19⟩, ⟨⟨rfl, k20⟩, ⟨⟨rfl, k33⟩, ⟨⟨rfl, k37⟩, ⟨⟨rfl, k38⟩, ⟨⟨rfl, k40⟩, ⟨⟨rfl, k41⟩, ⟨⟨rfl, k42⟩, ⟨⟨rfl, k43⟩, ⟨⟨rfl, k44⟩, ⟨⟨rfl, k45⟩, ⟨⟨rfl, k46⟩, ⟨⟨rfl, k47⟩, ⟨⟨rfl, k48⟩, ⟨⟨rfl, k49⟩, ⟨⟨rfl, k50⟩, ⟨⟨rfl, k56⟩, ⟨⟨rfl, k57⟩, ⟨⟨rfl, k60⟩, ⟨⟨rfl, k61⟩, ⟨⟨rfl, k62⟩, ⟨⟨rfl, k63⟩, ⟨⟨rfl, k64⟩, ⟨⟨rfl, k65⟩, ⟨⟨rfl, k66⟩, ⟨⟨rfl, k67⟩, ⟨⟨rfl, k68⟩, ⟨⟨rfl, k69⟩, ⟨⟨rfl, k70⟩, ⟨⟨rfl, k75⟩, ⟨⟨rfl, k78⟩, ⟨⟨rfl, k79⟩, ⟨⟨rfl, k80⟩, ⟨⟨rfl, k81⟩, ⟨⟨rfl, k82⟩, ⟨⟨rfl, k83⟩, ⟨⟨rfl, k84⟩, ⟨⟨rfl, k99⟩, ⟨⟨rfl, k103⟩, ⟨⟨rfl, k104⟩, ⟨⟨rfl, k107⟩, ⟨⟨rfl, k108⟩, ⟨⟨rfl, k109⟩, ⟨⟨rfl, k110⟩, ⟨⟨rfl, k111⟩, ⟨⟨rfl, k136⟩, ⟨⟨rfl, k140⟩, ⟨⟨rfl, k141⟩, ⟨⟨rfl, k144⟩, ⟨⟨rfl, k145⟩, ⟨⟨rfl, k146⟩, ⟨⟨rfl, k147⟩, ⟨⟨rfl, k148⟩, ⟨⟨rfl, k172⟩, ⟨⟨rfl, k175⟩, ⟨⟨rfl, k176⟩, ⟨⟨rfl, k177⟩, ⟨⟨rfl, k178⟩, ⟨⟨rfl, k179⟩, ⟨⟨rfl, k180⟩, ⟨⟨rfl, k181⟩, trivial⟩⟩⟩⟩⟩⟩⟩⟩⟩⟩⟩⟩⟩⟩⟩⟩⟩⟩⟩⟩⟩⟩⟩⟩⟩⟩⟩⟩⟩⟩⟩⟩⟩⟩⟩⟩⟩⟩⟩⟩⟩⟩⟩⟩⟩⟩⟩⟩⟩⟩⟩⟩⟩⟩⟩⟩⟩⟩⟩⟩⟩⟩⟩⟩⟩⟩⟩⟩⟩⟩⟩⟩, ⟨⟨⟨rfl, k0⟩, ⟨⟨rfl, k5⟩, ⟨⟨rfl, k8⟩, ⟨⟨rfl, k12⟩, ⟨⟨rfl, k16⟩, trivial⟩⟩⟩⟩⟩, trivial, trivial⟩, ⟨⟨⟨rfl, k100⟩, ⟨⟨rfl, k101⟩, ⟨⟨rfl, k105⟩, ⟨⟨rfl, k106⟩, ⟨⟨rfl, k112⟩, ⟨⟨rfl, k113⟩, ⟨⟨rfl, k135⟩, ⟨⟨rfl, k139⟩, ⟨⟨rfl, k151⟩, trivial⟩⟩⟩⟩⟩⟩⟩⟩⟩, trivial, trivial⟩⟩, ⟨⟨⟨rfl, k76⟩, ⟨⟨rfl, k77⟩, ⟨⟨rfl, k85⟩, ⟨⟨rfl, k102⟩, ⟨⟨rfl, k114⟩, ⟨⟨rfl, k115⟩, trivial⟩⟩⟩⟩⟩⟩, ⟨⟨⟨rfl, k23⟩, ⟨⟨rfl, k24⟩, ⟨⟨rfl, k25⟩, ⟨⟨rfl, k26⟩, ⟨⟨rfl, k27⟩, ⟨⟨rfl, k28⟩, ⟨⟨rfl, k29⟩, ⟨⟨rfl, k30⟩, trivial⟩⟩⟩⟩⟩⟩⟩⟩, trivial, trivial⟩, trivial⟩⟩, ⟨⟨⟨rfl, k86⟩, ⟨⟨rfl, k87⟩, trivial⟩⟩, ⟨⟨⟨rfl, k58⟩, ⟨⟨rfl, k59⟩, ⟨⟨rfl, k71⟩, ⟨⟨rfl, k73⟩, ⟨⟨rfl, k74⟩, trivial⟩⟩⟩⟩⟩, ⟨⟨⟨rfl, k88⟩, ⟨⟨rfl, k89⟩, ⟨⟨rfl, k90⟩, ⟨⟨rfl, k91⟩, ⟨⟨rfl, k92⟩, ⟨⟨rfl, k93⟩, ⟨⟨rfl, k94⟩, ⟨⟨rfl, k95⟩, ⟨⟨rfl, k96⟩, ⟨⟨rfl, k97⟩, ⟨⟨rfl, k98⟩, trivial⟩⟩⟩⟩⟩⟩⟩⟩⟩⟩⟩, trivial, trivial⟩, trivial⟩, ⟨⟨⟨rfl, k3⟩, trivial⟩, ⟨⟨⟨rfl, k39⟩, trivial⟩, trivial, trivial⟩, trivial⟩⟩⟩⟩
theorem k196 : e196.Ok Tryz.prog gl := ent_ok (rd := []) ok7 fine (imp := imp) (k := 1000000) (n := 60) (by kernel_rfl)
theorem k197 : e197.Ok Tryz.prog gl := ent_ok (rd := []) ok7 fine (imp := imp) (k := 1000000) (n := 60) (by kernel_rfl)
theorem k198 : e198.Ok Tryz.prog gl := ent_ok (rd := []) ok7 fine (imp := imp) (k := 1000000) (n := 60) (by kernel_rfl)
theorem k199 : e199.Ok Tryz.prog gl := ent_ok (rd := []) ok7 fine (imp := imp) (k := 1000000) (n := 60) (by kernel_rfl)
theorem k200 : e200.Ok Tryz.prog gl := ent_ok (rd := []) ok7 fine (imp := imp) (k := 1000000) (n := 60) (by kernel_rfl)
theorem k201 : e201.Ok Tryz.prog gl := ent_ok (rd := []) ok7 fine (imp := imp) (k := 1000000) (n := 60) (by kernel_rfl)
theorem k202 : e202.Ok Tryz.prog gl := ent_ok (rd := []) ok7 fine (imp := imp) (k := 1000000) (n := 60) (by kernel_rfl)
theorem k203 : e203.Ok Tryz.prog gl := ent_ok (rd := [0, 1]) ok7 fine (imp := imp) (k := 1000000) (n := 60) (by kernel_rfl)
theorem k204 : e204.Ok Tryz.prog gl := ent_ok (rd := [0, 1]) ok7 fine (imp := imp) (k := 1000000) (n := 60) (by kernel_rfl)
theorem k205 : e205.Ok Tryz.prog gl := ent_ok (rd := []) ok7 fine (imp := imp) (k := 1000000) (n := 60) (by kernel_rfl)
theorem k206 : e206.Ok Tryz.prog gl := ent_ok (rd := []) ok7 fine (imp := imp) (k := 1000000) (n := 60) (by kernel_rfl)
theorem k207 : e207.Ok Tryz.prog gl := ent_ok (rd := []) ok7 fine (imp := imp) (k := 1000000) (n := 60) (by kernel_rfl)
theorem k208 : e208.Ok Tryz.prog gl := ent_ok (rd := []) ok7 fine (imp := imp) (k := 1000000) (n := 60) (by kernel_rfl)
theorem k209 : e209.Ok Tryz.prog gl := ent_ok (rd := []) ok7 fine (imp := imp) (k := 1000000) (n := 60) (by kernel_rfl)
theorem k210 : e210.Ok Tryz.prog gl := ent_ok (rd := []) ok7 fine (imp := imp) (k := 1000000) (n := 60) (by kernel_rfl)
theorem k211 : e211.Ok Tryz.prog gl := ent_ok (rd := []) ok7 fine (imp := imp) (k := 1000000) (n := 60) (by kernel_rfl)
theorem k212 : e212.Ok Tryz.prog gl := ent_ok (rd := []) ok7 fine (imp := imp) (k := 1000000) (n := 60) (by kernel_rfl)
theorem k213 : e213.Ok Tryz.prog gl := ent_ok (rd := []) ok7 fine (imp := imp) (k := 1000000) (n := 60) (by kernel_rfl)
theorem k214 : e214.Ok Tryz.prog gl := ent_ok (rd := []) ok7 fine (imp := imp) (k := 1000000) (n := 60) (by kernel_rfl)
theorem k215 : e215.Ok Tryz.prog gl := ent_ok (rd := []) ok7 fine (imp := imp) (k := 1000000) (n := 60) (by kernel_rfl)
theorem k216 : e216.Ok Tryz.prog gl := ent_ok (rd := []) ok7 fine (imp := imp) (k := 1000000) (n := 60) (by kernel_rfl)
theorem k217 : e217.Ok Tryz.prog gl := ent_ok (rd := []) ok7 fine (imp := imp) (k := 1000000) (n := 60) (by kernel_rfl)
theorem k218 : e218.Ok Tryz.prog gl := ent_ok (rd := []) ok7 fine (imp := imp) (k := 1000000) (n := 60) (by kernel_rfl)
theorem k219 : e219.Ok Tryz.prog gl := ent_ok (rd := []) ok7 fine (imp := imp) (k := 1000000) (n := 60) (by kernel_rfl)
theorem k220 : e220.Ok Tryz.prog gl := ent_ok (rd := []) ok7 fine (imp := imp) (k := 1000000) (n := 60) (by kernel_rfl)
theorem k221 : e221.Ok Tryz.prog gl := ent_ok (rd := []) ok7 fine (imp := imp) (k := 1000000) (n := 60) (by kernel_rfl)
end Go.Proofs.YtceccojmekpneaaGreatDoor.Tfk
