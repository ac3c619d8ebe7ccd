/- Known calls, by evaluation. -/
import Derived.Test.YtdnbnpknpejpdaaGreatDoorTikL0x0
import Derived.Test.YtdnbnpknpejpdaaGreatDoorTikL0x1
import Derived.Test.YtdnbnpknpejpdaaGreatDoorTikL0x2
import Derived.Test.YtdnbnpknpejpdaaGreatDoorTikL0x3
import Derived.Test.YtdnbnpknpejpdaaGreatDoorTikL0x4
import Derived.Test.YtdnbnpknpejpdaaGreatDoorTikL0x5
import Derived.Test.YtdnbnpknpejpdaaGreatDoorTikL0x6
import Derived.Test.YtdnbnpknpejpdaaGreatDoorTikL0x7
set_option linter.unusedVariables false
set_option linter.unusedSimpArgs false
namespace Go.Proofs.YtdnbnpknpejpdaaGreatDoor.Tik
open Go Go.Proofs.YtdnbnpknpejpdaaGreatDoor.Sw
set_option maxRecDepth 100000
theorem k2 : e2.Ok Tryz.prog gl := ent_ok (rd := []) ok0 fine (imp := imp) (k := 1000000) (n := 60) (by kernel_rfl)
theorem k4 : e4.Ok Tryz.prog gl := ent_ok (rd := []) ok0 fine (imp := imp) (k := 1000000) (n := 60) (by kernel_rfl)
theorem k6 : e6.Ok Tryz.prog gl := ent_ok (rd := []) ok0 fine (imp := imp) (k := 1000000) (n := 60) (by kernel_rfl)
theorem k8 : e8.Ok Tryz.prog gl := ent_ok (rd := []) ok0 fine (imp := imp) (k := 1000000) (n := 60) (by kernel_rfl)
theorem k10 : e10.Ok Tryz.prog gl := ent_ok (rd := []) ok0 fine (imp := imp) (k := 1000000) (n := 60) (by kernel_rfl)
theorem k12 : e12.Ok Tryz.prog gl := ent_ok (rd := []) ok0 fine (imp := imp) (k := 1000000) (n := 60) (by kernel_rfl)
theorem k14 : e14.Ok Tryz.prog gl := ent_ok (rd := []) ok0 fine (imp := imp) (k := 1000000) (n := 60) (by kernel_rfl)
theorem k19 : e19.Ok Tryz.prog gl := ent_ok (rd := []) ok0 fine (imp := imp) (k := 1000000) (n := 60) (by kernel_rfl)
theorem k21 : e21.Ok Tryz.prog gl := ent_ok (rd := []) ok0 fine (imp := imp) (k := 1000000) (n := 60) (by kernel_rfl)
theorem k23 : e23.Ok Tryz.prog gl := ent_ok (rd := []) ok0 fine (imp := imp) (k := 1000000) (n := 60) (by kernel_rfl)
theorem k28 : e28.Ok Tryz.prog gl := ent_ok (rd := []) ok0 fine (imp := imp) (k := 1000000) (n := 60) (by kernel_rfl)
theorem k29 : e29.Ok Tryz.prog gl := ent_ok (rd := []) ok0 fine (imp := imp) (k := 1000000) (n := 60) (by kernel_rfl)
theorem k31 : e31.Ok Tryz.prog gl := ent_ok (rd := []) ok0 fine (imp := imp) (k := 1000000) (n := 60) (by kernel_rfl)
theorem k33 : e33.Ok Tryz.prog gl := ent_ok (rd := []) ok0 fine (imp := imp) (k := 1000000) (n := 60) (by kernel_rfl)
theorem k35 : e35.Ok Tryz.prog gl := ent_ok (rd := []) ok0 fine (imp := imp) (k := 1000000) (n := 60) (by kernel_rfl)
theorem k37 : e37.Ok Tryz.prog gl := ent_ok (rd := []) ok0 fine (imp := imp) (k := 1000000) (n := 60) (by kernel_rfl)
theorem k40 : e40.Ok Tryz.prog gl := ent_ok (rd := []) ok0 fine (imp := imp) (k := 1000000) (n := 60) (by kernel_rfl)
theorem k42 : e42.Ok Tryz.prog gl := ent_ok (rd := []) ok0 fine (imp := imp) (k := 1000000) (n := 60) (by kernel_rfl)
theorem k46 : e46.Ok Tryz.prog gl := ent_ok (rd := []) ok0 fine (imp := imp) (k := 1000000) (n := 60) (by kernel_rfl)
theorem k48 : e48.Ok Tryz.prog gl := ent_ok (rd := []) ok0 fine (imp := imp) (k := 1000000) (n := 60) (by kernel_rfl)
theorem k49 : e49.Ok Tryz.prog gl := ent_ok (rd := []) ok0 fine (imp := imp) (k := 1000000) (n := 60) (by kernel_rfl)
theorem k54 : e54.Ok Tryz.prog gl := ent_ok (rd := []) ok0 fine (imp := imp) (k := 1000000) (n := 60) (by kernel_rfl)
theorem k56 : e56.Ok Tryz.prog gl := ent_ok (rd := []) ok0 fine (imp := imp) (k := 1000000) (n := 60) (by kernel_rfl)
theorem k57 : e57.Ok Tryz.prog gl := ent_ok (rd := []) ok0 fine (imp := imp) (k := 1000000) (n := 60) (by kernel_rfl)
theorem k59 : e59.Ok Tryz.prog gl := ent_ok (rd := []) ok0 fine (imp := imp) (k := 1000000) (n := 60) (by kernel_rfl)
theorem k63 : e63.Ok Tryz.prog gl := ent_ok (rd := []) ok0 fine (imp := imp) (k := 1000000) (n := 60) (by kernel_rfl)
theorem k65 : e65.Ok Tryz.prog gl := ent_ok (rd := []) ok0 fine (imp := imp) (k := 1000000) (n := 60) (by kernel_rfl)
theorem k66 : e66.Ok Tryz.prog gl := ent_ok (rd := []) ok0 fine (imp := imp) (k := 1000000) (n := 60) (by kernel_rfl)
theorem k70 : e70.Ok Tryz.prog gl := ent_ok (rd := []) ok0 fine (imp := imp) (k := 1000000) (n := 60) (by kernel_rfl)
theorem k72 : e72.Ok Tryz.prog gl := ent_ok (rd := []) ok0 fine (imp := imp) (k := 1000000) (n := 60) (by kernel_rfl)
theorem k73 : e73.Ok Tryz.prog gl := ent_ok (rd := []) ok0 fine (imp := imp) (k := 1000000) (n := 60) (by kernel_rfl)
theorem k75 : e75.Ok Tryz.prog gl := ent_ok (rd := []) ok0 fine (imp := imp) (k := 1000000) (n := 60) (by kernel_rfl)
theorem k80 : e80.Ok Tryz.prog gl := ent_ok (rd := []) ok0 fine (imp := imp) (k := 1000000) (n := 60) (by kernel_rfl)
theorem k81 : e81.Ok Tryz.prog gl := ent_ok (rd := []) ok0 fine (imp := imp) (k := 1000000) (n := 60) (by kernel_rfl)
theorem k82 : e82.Ok Tryz.prog gl := ent_ok (rd := []) ok0 fine (imp := imp) (k := 1000000) (n := 60) (by kernel_rfl)
theorem k83 : e83.Ok Tryz.prog gl := ent_ok (rd := []) ok0 fine (imp := imp) (k := 1000000) (n := 60) (by kernel_rfl)
theorem k86 : e86.Ok Tryz.prog gl := ent_ok (rd := []) ok0 fine (imp := imp) (k := 1000000) (n := 60) (by kernel_rfl)
theorem k88 : e88.Ok Tryz.prog gl := ent_ok (rd := []) ok0 fine (imp := imp) (k := 1000000) (n := 60) (by kernel_rfl)
theorem k89 : e89.Ok Tryz.prog gl := ent_ok (rd := []) ok0 fine (imp := imp) (k := 1000000) (n := 60) (by kernel_rfl)
theorem k93 : e93.Ok Tryz.prog gl := ent_ok (rd := []) ok0 fine (imp := imp) (k := 1000000) (n := 60) (by kernel_rfl)
theorem k194 : e194.Ok Tryz.prog gl := ent_ok (rd := [0, 1]) ok0 fine (imp := imp) (k := 1000000) (n := 60) (by kernel_rfl)
theorem k204 : e204.Ok Tryz.prog gl := ent_ok (rd := [0, 1]) ok0 fine (imp := imp) (k := 1000000) (n := 60) (by kernel_rfl)
theorem k206 : e206.Ok Tryz.prog gl := ent_ok (rd := [0, 1]) ok0 fine (imp := imp) (k := 1000000) (n := 60) (by kernel_rfl)
theorem k209 : e209.Ok Tryz.prog gl := ent_ok (rd := [0]) ok0 fine (imp := imp) (k := 1000000) (n := 60) (by kernel_rfl)
theorem k213 : e213.Ok Tryz.prog gl := ent_ok (rd := [0, 1]) ok0 fine (imp := imp) (k := 1000000) (n := 60) (by kernel_rfl)
theorem k218 : e218.Ok Tryz.prog gl := ent_ok (rd := [0]) ok0 fine (imp := imp) (k := 1000000) (n := 60) (by kernel_rfl)
theorem k219 : e219.Ok Tryz.prog gl := ent_ok (rd := []) ok0 fine (imp := imp) (k := 1000000) (n := 60) (by kernel_rfl)
theorem k223 : e223.Ok Tryz.prog gl := ent_ok (rd := [0, 1]) ok0 fine (imp := imp) (k := 1000000) (n := 60) (by kernel_rfl)
theorem k225 : e225.Ok Tryz.prog gl := ent_ok (rd := [0, 1]) ok0 fine (imp := imp) (k := 1000000) (n := 60) (by kernel_rfl)
theorem k226 : e226.Ok Tryz.prog gl := ent_ok (rd := [0, 1]) ok0 fine (imp := imp) (k := 1000000) (n := 60) (by kernel_rfl)
theorem k228 : e228.Ok Tryz.prog gl := ent_ok (rd := [0]) ok0 fine (imp := imp) (k := 1000000) (n := 60) (by kernel_rfl)
theorem k233 : e233.Ok Tryz.prog gl := ent_ok (rd := [0, 1]) ok0 fine (imp := imp) (k := 1000000) (n := 60) (by kernel_rfl)
theorem k234 : e234.Ok Tryz.prog gl := ent_ok (rd := [0, 1]) ok0 fine (imp := imp) (k := 1000000) (n := 60) (by kernel_rfl)
theorem ok1 : t1.Ok Tryz.prog gl := ⟨⟨⟨rfl, k176⟩, ⟨⟨rfl, k177⟩, ⟨⟨rfl, k178⟩, ⟨⟨rfl, k179⟩, ⟨⟨rfl, k180⟩, ⟨⟨rfl, k181⟩, ⟨⟨rfl, k182⟩, ⟨⟨rfl, k259⟩, ⟨⟨rfl, k270⟩, ⟨⟨rfl, k274⟩, ⟨⟨rfl, k275⟩, ⟨⟨rfl, k279⟩, ⟨⟨rfl, k280⟩, trivial⟩⟩⟩⟩⟩⟩⟩⟩⟩⟩⟩⟩⟩, ⟨⟨⟨rfl, k2⟩, ⟨⟨rfl, k4⟩, ⟨⟨rfl, k6⟩, ⟨⟨rfl, k8⟩, ⟨⟨rfl, k10⟩, ⟨⟨rfl, k12⟩, ⟨⟨rfl, k14⟩, ⟨⟨rfl, k19⟩, ⟨⟨rfl, k21⟩, ⟨⟨rfl, k23⟩, ⟨⟨rfl, k28⟩, ⟨⟨rfl, k29⟩, ⟨⟨rfl, k31⟩, ⟨⟨rfl, k33⟩, ⟨⟨rfl, k35⟩, ⟨⟨rfl, k37⟩, ⟨⟨rfl, k40⟩, ⟨⟨rfl, k42⟩, ⟨⟨rfl, k46⟩, ⟨⟨rfl, k48⟩, ⟨⟨rfl, k49⟩, ⟨⟨rfl, k54⟩, ⟨⟨rfl, k56⟩, ⟨⟨rfl, k57⟩, ⟨⟨rfl, k59⟩, ⟨⟨rfl, k63⟩, ⟨⟨rfl, k65⟩, ⟨⟨rfl, k66⟩, ⟨⟨rfl, k70⟩, ⟨⟨rfl, k72⟩, ⟨⟨rfl, k73⟩, ⟨⟨rfl, k75⟩, ⟨⟨rfl, k80⟩, ⟨⟨rfl, k81⟩, ⟨⟨rfl, k83⟩, ⟨⟨rfl, k86⟩, ⟨⟨rfl, k88⟩, ⟨⟨rfl, k89⟩, ⟨⟨rfl, k93⟩, trivial⟩⟩⟩⟩⟩⟩⟩⟩⟩⟩⟩⟩⟩⟩⟩⟩⟩⟩⟩⟩⟩⟩⟩⟩⟩⟩⟩⟩⟩⟩⟩⟩⟩⟩⟩⟩⟩⟩⟩, ⟨⟨⟨rfl, k209⟩, ⟨⟨rfl, k212⟩, ⟨⟨rfl, k218⟩, ⟨⟨rfl, k222⟩, ⟨⟨rfl, k224⟩, ⟨⟨rfl, k228⟩, ⟨⟨rfl, k232⟩, ⟨⟨rfl, k238⟩, ⟨⟨rfl, k245⟩, ⟨⟨rfl, k246⟩, ⟨⟨rfl, k269⟩, trivial⟩⟩⟩⟩⟩⟩⟩⟩⟩⟩⟩, ⟨⟨⟨rfl, k247⟩, trivial⟩, ⟨⟨⟨rfl, k249⟩, trivial⟩, ⟨⟨⟨rfl, k251⟩, ⟨⟨rfl, k252⟩, ⟨⟨rfl, k253⟩, trivial⟩⟩⟩, trivial, trivial⟩, trivial⟩, ⟨⟨⟨rfl, k188⟩, trivial⟩, trivial, trivial⟩⟩, ⟨⟨⟨rfl, k248⟩, trivial⟩, ⟨⟨⟨rfl, k250⟩, trivial⟩, trivial, trivial⟩, ⟨⟨⟨rfl, k267⟩, ⟨⟨rfl, k268⟩, ⟨⟨rfl, k283⟩, trivial⟩⟩⟩, trivial, trivial⟩⟩⟩, ⟨⟨⟨rfl, k165⟩, ⟨⟨rfl, k168⟩, ⟨⟨rfl, k172⟩, ⟨⟨rfl, k173⟩, ⟨⟨rfl, k174⟩, ⟨⟨rfl, k265⟩, ⟨⟨rfl, k281⟩, ⟨⟨rfl, k284⟩, trivial⟩⟩⟩⟩⟩⟩⟩⟩, ⟨⟨⟨rfl, k190⟩, ⟨⟨rfl, k191⟩, trivial⟩⟩, ⟨⟨⟨rfl, k189⟩, trivial⟩, ⟨⟨⟨rfl, k1⟩, ⟨⟨rfl, k3⟩, ⟨⟨rfl, k5⟩, ⟨⟨rfl, k11⟩, ⟨⟨rfl, k13⟩, ⟨⟨rfl, k15⟩, ⟨⟨rfl, k16⟩, ⟨⟨rfl, k17⟩, ⟨⟨rfl, k18⟩, ⟨⟨rfl, k20⟩, ⟨⟨rfl, k22⟩, ⟨⟨rfl, k24⟩, ⟨⟨rfl, k25⟩, ⟨⟨rfl, k26⟩, ⟨⟨rfl, k27⟩, ⟨⟨rfl, k32⟩, ⟨⟨rfl, k34⟩, ⟨⟨rfl, k36⟩, ⟨⟨rfl, k38⟩, ⟨⟨rfl, k39⟩, ⟨⟨rfl, k43⟩, ⟨⟨rfl, k44⟩, ⟨⟨rfl, k47⟩, ⟨⟨rfl, k50⟩, ⟨⟨rfl, k51⟩, ⟨⟨rfl, k52⟩, ⟨⟨rfl, k53⟩, ⟨⟨rfl, k55⟩, ⟨⟨rfl, k58⟩, ⟨⟨rfl, k60⟩, ⟨⟨rfl, k61⟩, ⟨⟨rfl, k62⟩, ⟨⟨rfl, k64⟩, ⟨⟨rfl, k67⟩, ⟨⟨rfl, k68⟩, ⟨⟨rfl, k69⟩, ⟨⟨rfl, k71⟩, ⟨⟨rfl, k74⟩, ⟨⟨rfl, k76⟩, ⟨⟨rfl, k77⟩, ⟨⟨rfl, k78⟩, ⟨⟨rfl, k79⟩, ⟨⟨rfl, k82⟩, ⟨⟨rfl, k85⟩, ⟨⟨rfl, k87⟩, ⟨⟨rfl, k90⟩, ⟨⟨rfl, k91⟩, ⟨⟨rfl, k92⟩, ⟨⟨rfl, k94⟩, ⟨⟨rfl, k95⟩, ⟨⟨rfl, k96⟩, ⟨⟨rfl, k97⟩, ⟨⟨rfl, k98⟩, ⟨⟨rfl, k99⟩, ⟨⟨rfl, k100⟩, ⟨⟨rfl, k101⟩, ⟨⟨rfl, k102⟩, ⟨⟨rfl, k103⟩, ⟨⟨rfl, k104⟩, ⟨⟨rfl, k105⟩, ⟨⟨rfl, k106⟩, ⟨⟨rfl, k107⟩, ⟨⟨rfl, k108⟩, ⟨⟨rfl, k109⟩, ⟨⟨rfl, k110⟩, ⟨⟨rfl, k111⟩, ⟨⟨rfl, k112⟩, ⟨⟨rfl, k113⟩, ⟨⟨rfl, k114⟩, ⟨⟨rfl, k115⟩, ⟨⟨rfl, k116⟩, ⟨⟨rfl, k117⟩, ⟨⟨rfl, k118⟩, ⟨⟨rfl, k120⟩, ⟨⟨rfl, k121⟩, ⟨⟨rfl, k123⟩, ⟨⟨rfl, k124⟩, ⟨⟨rfl, k125⟩, ⟨⟨rfl, k126⟩, ⟨⟨rfl, k127⟩, ⟨⟨rfl, k128⟩, ⟨⟨rfl, k129⟩, ⟨⟨rfl, k130⟩, ⟨⟨rfl, k131⟩, ⟨⟨rfl, k132⟩, ⟨⟨rfl, k133⟩, ⟨⟨rfl, k134⟩, ⟨⟨rfl, k135⟩, ⟨⟨rfl, k136⟩, ⟨⟨rfl, k137⟩, ⟨⟨rfl, k138⟩, ⟨⟨rfl, k139⟩, ⟨⟨rfl, k140⟩, ⟨⟨rfl, k141⟩, ⟨⟨rfl, k142⟩, ⟨⟨rfl, k143⟩, ⟨⟨rfl, k144⟩, ⟨⟨rfl, k145⟩, ⟨⟨rfl, k146⟩, ⟨⟨rfl, k147⟩, ⟨⟨rfl, k148⟩, ⟨⟨rfl, k149⟩, ⟨⟨rfl, k150⟩, ⟨⟨rfl, k151⟩, ⟨⟨rfl, k152⟩, ⟨⟨rfl, k153⟩, ⟨⟨rfl, k155⟩, ⟨⟨rfl, k158⟩, ⟨⟨rfl, k159⟩, ⟨⟨rfl, k160⟩, ⟨⟨rfl, k161⟩, ⟨⟨rfl, k162⟩, ⟨⟨rfl, k163⟩, ⟨⟨rfl, k164⟩, trivial⟩⟩⟩⟩⟩⟩⟩⟩⟩⟩⟩⟩⟩⟩⟩⟩⟩⟩⟩⟩⟩⟩⟩⟩⟩⟩⟩⟩⟩⟩⟩⟩⟩⟩⟩⟩⟩⟩⟩⟩⟩⟩⟩⟩⟩⟩⟩⟩⟩⟩⟩⟩⟩⟩⟩⟩⟩⟩⟩⟩⟩⟩⟩⟩⟩⟩⟩⟩⟩⟩⟩⟩⟩⟩⟩⟩⟩⟩⟩⟩⟩⟩⟩⟩⟩⟩⟩⟩⟩⟩⟩⟩⟩⟩⟩⟩⟩⟩⟩⟩⟩⟩⟩⟩⟩⟩⟩⟩⟩⟩⟩⟩⟩⟩, trivial, trivial⟩, trivial⟩, ⟨⟨⟨rfl, k257⟩, ⟨⟨rfl, k264⟩, ⟨⟨rfl, k277⟩, trivial⟩⟩⟩, trivial, trivial⟩⟩, ⟨⟨⟨rfl, k219⟩, trivial⟩, ⟨⟨⟨rfl, k285⟩, trivial⟩, trivial, trivial⟩, ⟨⟨⟨rfl, k166⟩, ⟨⟨rfl, k169⟩, ⟨⟨rfl, k170⟩, trivial⟩⟩⟩, trivial, trivial⟩⟩⟩⟩, ⟨⟨⟨rfl, k199⟩, ⟨⟨rfl, k202⟩, ⟨⟨rfl, k221⟩, ⟨⟨rfl, k231⟩, trivial⟩⟩⟩⟩, ⟨⟨⟨rfl, k183⟩, ⟨⟨rfl, k184⟩, ⟨⟨rfl, k185⟩, ⟨⟨rfl, k186⟩, ⟨⟨rfl, k254⟩, ⟨⟨rfl, k255⟩, ⟨⟨rfl, k256⟩, ⟨⟨rfl, k258⟩, ⟨⟨rfl, k260⟩, ⟨⟨rfl, k261⟩, ⟨⟨rfl, k263⟩, ⟨⟨rfl, k271⟩, ⟨⟨rfl, k273⟩, ⟨⟨rfl, k278⟩, trivial⟩⟩⟩⟩⟩⟩⟩⟩⟩⟩⟩⟩⟩⟩, ⟨⟨⟨rfl, k192⟩, ⟨⟨rfl, k193⟩, ⟨⟨rfl, k195⟩, ⟨⟨rfl, k196⟩, ⟨⟨rfl, k197⟩, ⟨⟨rfl, k203⟩, ⟨⟨rfl, k205⟩, ⟨⟨rfl, k211⟩, ⟨⟨rfl, k216⟩, trivial⟩⟩⟩⟩⟩⟩⟩⟩⟩, ⟨⟨⟨rfl, k194⟩, ⟨⟨rfl, k204⟩, ⟨⟨rfl, k206⟩, ⟨⟨rfl, k213⟩, ⟨⟨rfl, k223⟩, ⟨⟨rfl, k225⟩, ⟨⟨rfl, k226⟩, ⟨⟨rfl, k233⟩, ⟨⟨rfl, k234⟩, ⟨⟨rfl, k237⟩, ⟨⟨rfl, k239⟩, ⟨⟨rfl, k240⟩, ⟨⟨rfl, k241⟩, ⟨⟨rfl, k242⟩, ⟨⟨rfl, k243⟩, ⟨⟨rfl, k244⟩, trivial⟩⟩⟩⟩⟩⟩⟩⟩⟩⟩⟩⟩⟩⟩⟩⟩, ⟨⟨⟨rfl, k0⟩, ⟨⟨rfl, k7⟩, ⟨⟨rfl, k9⟩, ⟨⟨rfl, k30⟩, ⟨⟨rfl, k41⟩, ⟨⟨rfl, k45⟩, ⟨⟨rfl, k84⟩, ⟨⟨rfl, k119⟩, ⟨⟨rfl, k122⟩, ⟨⟨rfl, k154⟩, ⟨⟨rfl, k156⟩, ⟨⟨rfl, k157⟩, trivial⟩⟩⟩⟩⟩⟩⟩⟩⟩⟩⟩⟩, trivial, trivial⟩, trivial⟩, ⟨⟨⟨rfl, k187⟩, trivial⟩, trivial, trivial⟩⟩, ⟨⟨⟨rfl, k272⟩, trivial⟩, ⟨⟨⟨rfl, k262⟩, ⟨⟨rfl, k276⟩, trivial⟩⟩, trivial, trivial⟩, ⟨⟨⟨rfl, k167⟩, trivial⟩, trivial, trivial⟩⟩⟩, ⟨⟨⟨rfl, k210⟩, ⟨⟨rfl, k215⟩, trivial⟩⟩, ⟨⟨⟨rfl, k171⟩, ⟨⟨rfl, k266⟩, ⟨⟨rfl, k282⟩, trivial⟩⟩⟩, ⟨⟨⟨rfl, k175⟩, trivial⟩, trivial, trivial⟩, ⟨⟨⟨rfl, k200⟩, trivial⟩, trivial, trivial⟩⟩, ⟨⟨⟨rfl, k198⟩, trivial⟩, ⟨⟨⟨rfl, k207⟩, ⟨⟨rfl, k208⟩, ⟨⟨rfl, k214⟩, ⟨⟨rfl, k217⟩, ⟨⟨rfl, k220⟩, ⟨⟨rfl, k227⟩, ⟨⟨rfl, k229⟩, ⟨⟨rfl, k230⟩, ⟨⟨rfl, k235⟩, ⟨⟨rfl, k236⟩, trivial⟩⟩⟩⟩⟩⟩⟩⟩⟩⟩, trivial, trivial⟩, ⟨⟨⟨rfl, k201⟩, trivial⟩, trivial, trivial⟩⟩⟩⟩⟩
end Go.Proofs.YtdnbnpknpejpdaaGreatDoor.Tik
