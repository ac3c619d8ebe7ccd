/- A known call, by pieces. -/
import Derived.Test.YtdnbnpknpejpdaaGreatDoorTikM10
import Derived.Test.YtdnbnpknpejpdaaGreatDoorEvC
set_option linter.unusedVariables false
set_option linter.unusedSimpArgs false
namespace Go.Proofs.YtdnbnpknpejpdaaGreatDoor.Tik
open Go Go.Proofs.YtdnbnpknpejpdaaGreatDoor.Sw
set_option maxRecDepth 100000
noncomputable abbrev CC : CallFn := evCall t11.memo gl imp Tryz.prog 1000000 60
noncomputable def fnD : Func := Tryz.prog.funcs.getD 68 default
noncomputable def bd : Code := bodyC Tryz.prog 68
def T0 : List (Nat × AVal) := [(0, (.p c225))]
def O0 : List (Nat × Sw.Obj) := []
def T1 : List (Nat × AVal) := [(0, (.p c225)), (1, (.box 0 0)), (2, (.p .nils)), (3, (.p (I 0)))]
def q0 : PVal := (.agg [(I 2), (I 0), (I 2), (I 0), .nils])
def q1 : PVal := (.agg [(.str [115]), (I 6), (I 0), (I 0), (I 3), (.sl [q0]), (I 7), (I 0), (.str []), .nils, (.sl [c156])])
def q2 : PVal := (.agg [(.str [98]), (I 3), (I 0), (I 0), (I 0), .nils, (I 2), (I 0), (.str []), .nils, .nils])
def q3 : PVal := (.agg [(.str [120]), (I 2), (I 0), (I 1), (I 0), .nils])
def q4 : PVal := (.agg [(.str [97, 100, 100]), (.sl [q3]), (.sl [c158])])
def q5 : PVal := (.agg [(.str [108, 111, 119]), (I 13), (I 0), (.str []), .nils, c224])
def q6 : PVal := (.agg [(.str [104, 97, 115]), (I 20), (I 0), (.str []), .nils, c170])
def q7 : PVal := (.agg [(.str [116, 119, 111]), (I 13), (I 0), (.str []), .nils, c178])
def q8 : PVal := (.str [115, 117, 114, 101])
def q9 : PVal := (.agg [q8, (I 19), (I 0), (.str []), .nils, c183])
def q10 : Sw.Obj := (.box [(.p (.str [109])), (.p (.sl [q1, q2])), (.p (.sl [q4, c189, c192])), (.p (.sl [q5, q6, q7, q9]))])
def O1 : List (Nat × Sw.Obj) := [(0, q10)]
def q11 : AVal := (.tup [(.arr 64 0 0 2 false), (.p (I 0))])
def q12 : List (Nat × AVal) := [(3, (.p (I 0))), (4, (.arr 64 0 0 2 false)), (5, (.p (I 0))), (16, q11), (17, (.p c225)), (18, q11), (19, (.arr 64 0 0 2 false)), (20, (.p (I 0)))]
def q13 : List (Nat × AVal) := [(0, (.p c225)), (1, (.box 0 0)), (2, (.p .nils))] ++ q12
def T2 : List (Nat × AVal) := q13
def q14 : Sw.Obj := (.arr 4 2 [(.p c213), (.p c203)] 0 0 0)
def O2 : List (Nat × Sw.Obj) := [(0, q10), (64, q14)]
def q15 : List (Nat × AVal) := [(5, (.p (I 0))), (16, q11), (17, (.p c225)), (18, q11), (19, (.arr 64 0 0 2 false)), (20, (.p (I 0))), (21, (.p (I 0))), (22, (.p (.bool false)))]
def q16 : List (Nat × AVal) := [(0, (.p c225)), (1, (.box 0 0)), (2, (.p .nils)), (3, (.p (I 0))), (4, (.arr 64 0 0 2 false))] ++ q15
def T3 : List (Nat × AVal) := q16
def O3 : List (Nat × Sw.Obj) := [(0, q10), (64, q14)]
def q17 : AVal := (.tup [(.arr 208 0 0 16 false), (.p (.bool true))])
def q18 : List (Nat × AVal) := [(20, (.p (I 0))), (21, (.p (I 0))), (22, (.p (.bool false))), (24, q17), (25, (.p c225)), (26, q17), (27, (.arr 208 0 0 16 false)), (28, (.p (.bool true)))]
def q19 : List (Nat × AVal) := [(4, (.arr 64 0 0 2 false)), (5, (.p (I 0))), (6, (.arr 208 0 0 16 false)), (7, (.p (.bool true))), (16, q11), (17, (.p c225)), (18, q11), (19, (.arr 64 0 0 2 false))] ++ q18
def q20 : List (Nat × AVal) := [(0, (.p c225)), (1, (.box 0 0)), (2, (.p .nils)), (3, (.p (I 0)))] ++ q19
def T4 : List (Nat × AVal) := q20
def q21 : Sw.Obj := (.arr 1 16 [(.p c292), (.p c293), (.p c215), (.p c222), (.p c232), (.p c294), (.p c295), (.p c296), (.p c218), (.p c230), (.p c241), (.p c229), (.p c270), (.p c235), (.p c242), (.p c237)] 0 0 0)
def O4 : List (Nat × Sw.Obj) := [(0, q10), (64, q14), (208, q21)]
def q22 : AVal := (.tup [(.box 512 0), (.p (.bool true))])
def q23 : List (Nat × AVal) := [(26, q17), (27, (.arr 208 0 0 16 false)), (28, (.p (.bool true))), (29, q22), (30, (.p c225)), (31, q22), (32, (.box 512 0)), (33, (.p (.bool true)))]
def q24 : List (Nat × AVal) := [(17, (.p c225)), (18, q11), (19, (.arr 64 0 0 2 false)), (20, (.p (I 0))), (21, (.p (I 0))), (22, (.p (.bool false))), (24, q17), (25, (.p c225))] ++ q23
def q25 : List (Nat × AVal) := [(3, (.p (I 0))), (4, (.arr 64 0 0 2 false)), (5, (.p (I 0))), (6, (.arr 208 0 0 16 false)), (7, (.p (.bool true))), (8, (.box 384 0)), (9, (.p (.bool true))), (16, q11)] ++ q24
def q26 : List (Nat × AVal) := [(0, (.p c225)), (1, (.box 0 0)), (2, (.p .nils))] ++ q25
def T5 : List (Nat × AVal) := q26
def q27 : Sw.Obj := (.box [(.p (.str [109])), (.p (.sl [q1, q2])), (.p (.sl [q4, c189, c192])), (.p (.sl [q5, q6, q7, q9])), (.arr 1568 11 0 12 false)])
def q28 : PVal := (.agg [(I 0), (.sl [c185]), .nils])
def q29 : PVal := (.agg [(I 0), (.sl [c186]), .nils])
def q30 : PVal := (.agg [(I 1), .nils, .nils])
def q31 : PVal := (.agg [(I 2), .nils, c193])
def q32 : PVal := (.agg [(I 2), .nils, c194])
def q33 : PVal := (.agg [(I 2), .nils, c195])
def q34 : PVal := (.agg [(I 2), .nils, c196])
def q35 : PVal := (.agg [(I 2), .nils, c197])
def q36 : PVal := (.agg [(I 2), .nils, c198])
def q37 : PVal := (.agg [(I 2), .nils, c199])
def q38 : PVal := (.agg [(I 2), .nils, c200])
def q39 : PVal := (.agg [(I 2), .nils, c201])
def q40 : Sw.Obj := (.arr 3 12 [(.p q28), (.p q29), (.p q30), (.p q31), (.p q32), (.p q33), (.p q34), (.p q35), (.p q36), (.p q37), (.p q38), (.p q39)] 11 0 0)
def O5 : List (Nat × Sw.Obj) := [(0, q10), (64, q14), (208, q21), (384, (.box [(.box 512 0)])), (512, q27), (1568, q40)]
def q41 : List (Nat × AVal) := [(32, (.box 512 0)), (33, (.p (.bool true))), (34, (.p (.bool true))), (35, (.p (.bool false))), (36, (.p (.bool false))), (37, (.p (.bool true))), (38, (.p (.bool false))), (39, (.p (.bool false)))]
def q42 : List (Nat × AVal) := [(24, q17), (25, (.p c225)), (26, q17), (27, (.arr 208 0 0 16 false)), (28, (.p (.bool true))), (29, q22), (30, (.p c225)), (31, q22)] ++ q41
def q43 : List (Nat × AVal) := [(9, (.p (.bool true))), (16, q11), (17, (.p c225)), (18, q11), (19, (.arr 64 0 0 2 false)), (20, (.p (I 0))), (21, (.p (I 0))), (22, (.p (.bool false)))] ++ q42
def q44 : List (Nat × AVal) := [(1, (.box 0 0)), (2, (.p .nils)), (3, (.p (I 0))), (4, (.arr 64 0 0 2 false)), (5, (.p (I 0))), (6, (.arr 208 0 0 16 false)), (7, (.p (.bool true))), (8, (.box 384 0))] ++ q43
def q45 : List (Nat × AVal) := [(0, (.p c225))] ++ q44
def T6 : List (Nat × AVal) := q45
def O6 : List (Nat × Sw.Obj) := [(0, q10), (64, q14), (208, q21), (384, (.box [(.box 512 0)])), (512, q27), (1568, q40)]
def q46 : List (Nat × AVal) := [(10, (.p .nils)), (16, q11), (17, (.p c225)), (18, q11), (19, (.arr 64 0 0 2 false)), (20, (.p (I 0))), (21, (.p (I 0))), (22, (.p (.bool false)))] ++ q42
def q47 : List (Nat × AVal) := [(2, (.p .nils)), (3, (.p (I 0))), (4, (.arr 64 0 0 2 false)), (5, (.p (I 0))), (6, (.arr 208 0 0 16 false)), (7, (.p (.bool true))), (8, (.box 384 0)), (9, (.p (.bool true)))] ++ q46
def q48 : List (Nat × AVal) := [(0, (.p c225)), (1, (.box 0 0))] ++ q47
def T7 : List (Nat × AVal) := q48
def O7 : List (Nat × Sw.Obj) := [(0, q10), (64, q14), (208, q21), (384, (.box [(.box 512 0)])), (512, q27), (1568, q40)]
def q49 : List (Nat × AVal) := [(36, (.p (.bool false))), (37, (.p (.bool true))), (38, (.p (.bool false))), (39, (.p (.bool false))), (40, (.box 0 3)), (41, (.p (.sl [q5, q6, q7, q9]))), (42, (.p (I 4))), (43, (.p (I 0)))]
def q50 : List (Nat × AVal) := [(28, (.p (.bool true))), (29, q22), (30, (.p c225)), (31, q22), (32, (.box 512 0)), (33, (.p (.bool true))), (34, (.p (.bool true))), (35, (.p (.bool false)))] ++ q49
def q51 : List (Nat × AVal) := [(19, (.arr 64 0 0 2 false)), (20, (.p (I 0))), (21, (.p (I 0))), (22, (.p (.bool false))), (24, q17), (25, (.p c225)), (26, q17), (27, (.arr 208 0 0 16 false))] ++ q50
def q52 : List (Nat × AVal) := [(6, (.arr 208 0 0 16 false)), (7, (.p (.bool true))), (8, (.box 384 0)), (9, (.p (.bool true))), (10, (.p .nils)), (16, q11), (17, (.p c225)), (18, q11)] ++ q51
def q53 : List (Nat × AVal) := [(0, (.p c225)), (1, (.box 0 0)), (2, (.p .nils)), (3, (.p (I 0))), (4, (.arr 64 0 0 2 false)), (5, (.p (I 0)))] ++ q52
def T8 : List (Nat × AVal) := q53
def O8 : List (Nat × Sw.Obj) := [(0, q10), (64, q14), (208, q21), (384, (.box [(.box 512 0)])), (512, q27), (1568, q40)]
def q54 : List (Nat × AVal) := [(49, (.p (I 3))), (50, (.p (.bool false))), (51, (.p (.bool true))), (52, (.arr 7648 2 0 3 false)), (53, (.p (I 3))), (54, (.cl [(I 3)])), (55, (.arr 7648 3 0 4 false)), (56, (.p (I 4)))]
def q55 : List (Nat × AVal) := [(41, (.p (.sl [q5, q6, q7, q9]))), (42, (.p (I 4))), (43, (.p (I 4))), (44, (.p (.bool true))), (45, (.p (I 3))), (46, (.box 512 0)), (47, (.arr 64 0 0 2 false)), (48, (.p .nils))] ++ q54
def q56 : List (Nat × AVal) := [(33, (.p (.bool true))), (34, (.p (.bool true))), (35, (.p (.bool false))), (36, (.p (.bool false))), (37, (.p (.bool true))), (38, (.p (.bool false))), (39, (.p (.bool false))), (40, (.box 0 3))] ++ q55
def q57 : List (Nat × AVal) := [(25, (.p c225)), (26, q17), (27, (.arr 208 0 0 16 false)), (28, (.p (.bool true))), (29, q22), (30, (.p c225)), (31, q22), (32, (.box 512 0))] ++ q56
def q58 : List (Nat × AVal) := [(16, q11), (17, (.p c225)), (18, q11), (19, (.arr 64 0 0 2 false)), (20, (.p (I 0))), (21, (.p (I 0))), (22, (.p (.bool false))), (24, q17)] ++ q57
def q59 : List (Nat × AVal) := [(4, (.arr 64 0 0 2 false)), (5, (.p (I 0))), (6, (.arr 208 0 0 16 false)), (7, (.p (.bool true))), (8, (.box 384 0)), (9, (.p (.bool true))), (10, (.arr 7648 3 0 4 false)), (11, (.p (I 3)))] ++ q58
def q60 : List (Nat × AVal) := [(0, (.p c225)), (1, (.box 0 0)), (2, (.p .nils)), (3, (.p (I 0)))] ++ q59
def T9 : List (Nat × AVal) := q60
def q61 : Sw.Obj := (.arr 1 4 [(.p (I 0)), (.p (I 1)), (.p (I 2)), (.p (I 3))] 3 0 0)
def O9 : List (Nat × Sw.Obj) := [(0, q10), (64, q14), (208, q21), (384, (.box [(.box 512 0)])), (512, q27), (1568, q40), (7648, q61)]
def q62 : List (Nat × AVal) := [(41, (.p (.sl [q5, q6, q7, q9]))), (42, (.p (I 4))), (43, (.p (I 4))), (44, (.p (.bool false))), (45, (.p (I 3))), (46, (.box 512 0)), (47, (.arr 64 0 0 2 false)), (48, (.p .nils))] ++ q54
def q63 : List (Nat × AVal) := [(33, (.p (.bool true))), (34, (.p (.bool true))), (35, (.p (.bool false))), (36, (.p (.bool false))), (37, (.p (.bool true))), (38, (.p (.bool false))), (39, (.p (.bool false))), (40, (.box 0 3))] ++ q62
def q64 : List (Nat × AVal) := [(25, (.p c225)), (26, q17), (27, (.arr 208 0 0 16 false)), (28, (.p (.bool true))), (29, q22), (30, (.p c225)), (31, q22), (32, (.box 512 0))] ++ q63
def q65 : List (Nat × AVal) := [(16, q11), (17, (.p c225)), (18, q11), (19, (.arr 64 0 0 2 false)), (20, (.p (I 0))), (21, (.p (I 0))), (22, (.p (.bool false))), (24, q17)] ++ q64
def q66 : List (Nat × AVal) := [(4, (.arr 64 0 0 2 false)), (5, (.p (I 0))), (6, (.arr 208 0 0 16 false)), (7, (.p (.bool true))), (8, (.box 384 0)), (9, (.p (.bool true))), (10, (.arr 7648 3 0 4 false)), (11, (.p (I 3)))] ++ q65
def q67 : List (Nat × AVal) := [(0, (.p c225)), (1, (.box 0 0)), (2, (.p .nils)), (3, (.p (I 0)))] ++ q66
def T10 : List (Nat × AVal) := q67
def O10 : List (Nat × Sw.Obj) := [(0, q10), (64, q14), (208, q21), (384, (.box [(.box 512 0)])), (512, q27), (1568, q40), (7648, q61)]
def q68 : List (Nat × AVal) := [(5, (.p (I 0))), (6, (.arr 208 0 0 16 false)), (7, (.p (.bool true))), (8, (.box 384 0)), (9, (.p (.bool true))), (10, (.arr 7648 3 0 4 false)), (11, (.p (I 3))), (12, (.box 9744 0))] ++ q65
def q69 : List (Nat × AVal) := [(0, (.p c225)), (1, (.box 0 0)), (2, (.p .nils)), (3, (.p (I 0))), (4, (.arr 64 0 0 2 false))] ++ q68
def T11 : List (Nat × AVal) := q69
def O11 : List (Nat × Sw.Obj) := [(0, q10), (64, q14), (208, q21), (384, (.box [(.box 512 0)])), (512, q27), (1568, q40), (7648, q61), (9744, (.box [(.p .nils)]))]
def q70 : List (Nat × AVal) := [(52, (.arr 7648 2 0 3 false)), (53, (.p (I 3))), (54, (.cl [(I 3)])), (55, (.arr 7648 3 0 4 false)), (56, (.p (I 4))), (57, (.arr 208 0 0 16 false)), (58, (.p (I 16))), (59, (.p (I 0)))]
def q71 : List (Nat × AVal) := [(44, (.p (.bool false))), (45, (.p (I 3))), (46, (.box 512 0)), (47, (.arr 64 0 0 2 false)), (48, (.p .nils)), (49, (.p (I 3))), (50, (.p (.bool false))), (51, (.p (.bool true)))] ++ q70
def q72 : List (Nat × AVal) := [(36, (.p (.bool false))), (37, (.p (.bool true))), (38, (.p (.bool false))), (39, (.p (.bool false))), (40, (.box 0 3)), (41, (.p (.sl [q5, q6, q7, q9]))), (42, (.p (I 4))), (43, (.p (I 4)))] ++ q71
def q73 : List (Nat × AVal) := [(28, (.p (.bool true))), (29, q22), (30, (.p c225)), (31, q22), (32, (.box 512 0)), (33, (.p (.bool true))), (34, (.p (.bool true))), (35, (.p (.bool false)))] ++ q72
def q74 : List (Nat × AVal) := [(19, (.arr 64 0 0 2 false)), (20, (.p (I 0))), (21, (.p (I 0))), (22, (.p (.bool false))), (24, q17), (25, (.p c225)), (26, q17), (27, (.arr 208 0 0 16 false))] ++ q73
def q75 : List (Nat × AVal) := [(8, (.box 384 0)), (9, (.p (.bool true))), (10, (.arr 7648 3 0 4 false)), (11, (.p (I 3))), (12, (.box 9744 0)), (16, q11), (17, (.p c225)), (18, q11)] ++ q74
def q76 : List (Nat × AVal) := [(0, (.p c225)), (1, (.box 0 0)), (2, (.p .nils)), (3, (.p (I 0))), (4, (.arr 64 0 0 2 false)), (5, (.p (I 0))), (6, (.arr 208 0 0 16 false)), (7, (.p (.bool true)))] ++ q75
def T12 : List (Nat × AVal) := q76
def O12 : List (Nat × Sw.Obj) := [(0, q10), (64, q14), (208, q21), (384, (.box [(.box 512 0)])), (512, q27), (1568, q40), (7648, q61), (9744, (.box [(.p .nils)]))]
def q77 : AVal := (.fn (.func 93) [(.box 45840 0), (.box 45856 0)])
def q78 : List (Nat × AVal) := [(64, (.p c232)), (65, (.p .nils)), (66, (.arr 7648 3 0 4 false)), (67, (.p (.bool false))), (68, (.box 512 0)), (69, (.p c232)), (70, q77), (78, (.p (I 5)))]
def q79 : List (Nat × AVal) := [(56, (.p (I 4))), (57, (.arr 208 0 0 16 false)), (58, (.p (I 16))), (59, (.p (I 5))), (60, (.p (.bool true))), (61, (.el 208 0 4 0)), (62, (.p c232)), (63, (.box 512 0))] ++ q78
def q80 : List (Nat × AVal) := [(48, (.p .nils)), (49, (.p (I 3))), (50, (.p (.bool false))), (51, (.p (.bool true))), (52, (.arr 7648 2 0 3 false)), (53, (.p (I 3))), (54, (.cl [(I 3)])), (55, (.arr 7648 3 0 4 false))] ++ q79
def q81 : List (Nat × AVal) := [(40, (.box 0 3)), (41, (.p (.sl [q5, q6, q7, q9]))), (42, (.p (I 4))), (43, (.p (I 4))), (44, (.p (.bool false))), (45, (.p (I 3))), (46, (.box 512 0)), (47, (.arr 64 0 0 2 false))] ++ q80
def q82 : List (Nat × AVal) := [(32, (.box 512 0)), (33, (.p (.bool true))), (34, (.p (.bool true))), (35, (.p (.bool false))), (36, (.p (.bool false))), (37, (.p (.bool true))), (38, (.p (.bool false))), (39, (.p (.bool false)))] ++ q81
def q83 : List (Nat × AVal) := [(24, q17), (25, (.p c225)), (26, q17), (27, (.arr 208 0 0 16 false)), (28, (.p (.bool true))), (29, q22), (30, (.p c225)), (31, q22)] ++ q82
def q84 : List (Nat × AVal) := [(14, (.p c232)), (16, q11), (17, (.p c225)), (18, q11), (19, (.arr 64 0 0 2 false)), (20, (.p (I 0))), (21, (.p (I 0))), (22, (.p (.bool false)))] ++ q83
def q85 : List (Nat × AVal) := [(5, (.p (I 0))), (6, (.arr 208 0 0 16 false)), (7, (.p (.bool true))), (8, (.box 384 0)), (9, (.p (.bool true))), (10, (.arr 7648 3 0 4 false)), (11, (.p (I 3))), (12, (.box 9744 0))] ++ q84
def q86 : List (Nat × AVal) := [(0, (.p c225)), (1, (.box 0 0)), (2, (.p .nils)), (3, (.p (I 0))), (4, (.arr 64 0 0 2 false))] ++ q85
def T13 : List (Nat × AVal) := q86
def q87 : Sw.Obj := (.box [(.arr 20640 14 0 15 false)])
def q88 : Sw.Obj := (.arr 1 15 [(.p (I 2)), (.p (I 2)), (.p (I 2)), (.p (I 2)), (.p (I 2)), (.p (I 2)), (.p (I 1)), (.p (I 1)), (.p (I 1)), (.p (I 2)), (.p (I 2)), (.p (I 2)), (.p (I 1)), (.p (I 1)), (.p (I 1))] 14 0 0)
def q89 : List (Nat × Sw.Obj) := [(7648, q61), (9744, q87), (11104, (.ho (.dl true))), (20640, q88), (28512, (.ho (.dl true))), (45840, (.box [(.box 512 0)])), (45856, (.box [(.p c232)])), (45920, (.ho (.dl true)))]
def q90 : List (Nat × Sw.Obj) := [(0, q10), (64, q14), (208, q21), (384, (.box [(.box 512 0)])), (512, q27), (1568, q40)] ++ q89
def O13 : List (Nat × Sw.Obj) := q90
def q91 : AVal := (.fn (.func 93) [(.box 98864 0), (.box 98880 0)])
def q92 : List (Nat × AVal) := [(64, (.p c237)), (65, (.arr 118096 0 0 1 false)), (66, (.arr 7648 3 0 4 false)), (67, (.p (.bool true))), (68, (.box 512 0)), (69, (.p c230)), (70, q91), (78, (.p (I 16)))]
def q93 : List (Nat × AVal) := [(56, (.p (I 4))), (57, (.arr 208 0 0 16 false)), (58, (.p (I 16))), (59, (.p (I 16))), (60, (.p (.bool true))), (61, (.el 208 0 15 0)), (62, (.p c237)), (63, (.box 512 0))] ++ q92
def q94 : List (Nat × AVal) := [(48, (.p .nils)), (49, (.p (I 3))), (50, (.p (.bool false))), (51, (.p (.bool true))), (52, (.arr 7648 2 0 3 false)), (53, (.p (I 3))), (54, (.cl [(I 3)])), (55, (.arr 7648 3 0 4 false))] ++ q93
def q95 : List (Nat × AVal) := [(40, (.box 0 3)), (41, (.p (.sl [q5, q6, q7, q9]))), (42, (.p (I 4))), (43, (.p (I 4))), (44, (.p (.bool false))), (45, (.p (I 3))), (46, (.box 512 0)), (47, (.arr 64 0 0 2 false))] ++ q94
def q96 : List (Nat × AVal) := [(32, (.box 512 0)), (33, (.p (.bool true))), (34, (.p (.bool true))), (35, (.p (.bool false))), (36, (.p (.bool false))), (37, (.p (.bool true))), (38, (.p (.bool false))), (39, (.p (.bool false)))] ++ q95
def q97 : List (Nat × AVal) := [(24, q17), (25, (.p c225)), (26, q17), (27, (.arr 208 0 0 16 false)), (28, (.p (.bool true))), (29, q22), (30, (.p c225)), (31, q22)] ++ q96
def q98 : List (Nat × AVal) := [(14, (.p c237)), (16, q11), (17, (.p c225)), (18, q11), (19, (.arr 64 0 0 2 false)), (20, (.p (I 0))), (21, (.p (I 0))), (22, (.p (.bool false)))] ++ q97
def q99 : List (Nat × AVal) := [(5, (.p (I 0))), (6, (.arr 208 0 0 16 false)), (7, (.p (.bool true))), (8, (.box 384 0)), (9, (.p (.bool true))), (10, (.arr 7648 3 0 4 false)), (11, (.p (I 3))), (12, (.box 9744 0))] ++ q98
def q100 : List (Nat × AVal) := [(0, (.p c225)), (1, (.box 0 0)), (2, (.p .nils)), (3, (.p (I 0))), (4, (.arr 64 0 0 2 false))] ++ q99
def T14 : List (Nat × AVal) := q100
def q101 : Sw.Obj := (.box [(.arr 20640 29 0 30 false)])
def q102 : Sw.Obj := (.arr 1 30 [(.p (I 2)), (.p (I 2)), (.p (I 2)), (.p (I 2)), (.p (I 2)), (.p (I 2)), (.p (I 1)), (.p (I 1)), (.p (I 1)), (.p (I 2)), (.p (I 2)), (.p (I 2)), (.p (I 1)), (.p (I 1)), (.p (I 1)), (.p (I 1)), (.p (I 1)), (.p (I 1)), (.p (I 2)), (.p (I 2)), (.p (I 2)), (.p (I 1)), (.p (I 1)), (.p (I 1)), (.p (I 2)), (.p (I 2)), (.p (I 2)), (.p (I 2)), (.p (I 2)), (.p (I 2))] 29 0 0)
def q103 : Sw.Obj := (.arr 1 1 [(.p (I 2))] 0 0 0)
def q104 : List (Nat × Sw.Obj) := [(28512, (.ho (.dl true))), (45920, (.ho (.dl true))), (63328, (.ho (.dl true))), (81536, (.ho (.dl true))), (98864, (.box [(.box 512 0)])), (98880, (.box [(.p c230)])), (98944, (.ho (.dl true))), (118096, q103)]
def q105 : List (Nat × Sw.Obj) := [(208, q21), (384, (.box [(.box 512 0)])), (512, q27), (1568, q40), (7648, q61), (9744, q101), (11104, (.ho (.dl true))), (20640, q102)] ++ q104
def q106 : List (Nat × Sw.Obj) := [(0, q10), (64, q14)] ++ q105
def O14 : List (Nat × Sw.Obj) := q106
def q107 : List (Nat × AVal) := [(56, (.p (I 4))), (57, (.arr 208 0 0 16 false)), (58, (.p (I 16))), (59, (.p (I 16))), (60, (.p (.bool false))), (61, (.el 208 0 15 0)), (62, (.p c237)), (63, (.box 512 0))] ++ q92
def q108 : List (Nat × AVal) := [(48, (.p .nils)), (49, (.p (I 3))), (50, (.p (.bool false))), (51, (.p (.bool true))), (52, (.arr 7648 2 0 3 false)), (53, (.p (I 3))), (54, (.cl [(I 3)])), (55, (.arr 7648 3 0 4 false))] ++ q107
def q109 : List (Nat × AVal) := [(40, (.box 0 3)), (41, (.p (.sl [q5, q6, q7, q9]))), (42, (.p (I 4))), (43, (.p (I 4))), (44, (.p (.bool false))), (45, (.p (I 3))), (46, (.box 512 0)), (47, (.arr 64 0 0 2 false))] ++ q108
def q110 : List (Nat × AVal) := [(32, (.box 512 0)), (33, (.p (.bool true))), (34, (.p (.bool true))), (35, (.p (.bool false))), (36, (.p (.bool false))), (37, (.p (.bool true))), (38, (.p (.bool false))), (39, (.p (.bool false)))] ++ q109
def q111 : List (Nat × AVal) := [(24, q17), (25, (.p c225)), (26, q17), (27, (.arr 208 0 0 16 false)), (28, (.p (.bool true))), (29, q22), (30, (.p c225)), (31, q22)] ++ q110
def q112 : List (Nat × AVal) := [(14, (.p c237)), (16, q11), (17, (.p c225)), (18, q11), (19, (.arr 64 0 0 2 false)), (20, (.p (I 0))), (21, (.p (I 0))), (22, (.p (.bool false)))] ++ q111
def q113 : List (Nat × AVal) := [(5, (.p (I 0))), (6, (.arr 208 0 0 16 false)), (7, (.p (.bool true))), (8, (.box 384 0)), (9, (.p (.bool true))), (10, (.arr 7648 3 0 4 false)), (11, (.p (I 3))), (12, (.box 9744 0))] ++ q112
def q114 : List (Nat × AVal) := [(0, (.p c225)), (1, (.box 0 0)), (2, (.p .nils)), (3, (.p (I 0))), (4, (.arr 64 0 0 2 false))] ++ q113
def T15 : List (Nat × AVal) := q114
def O15 : List (Nat × Sw.Obj) := q106
def q115 : AVal := (.fn (.func 116) [(.box 9744 0)])
def q116 : List (Nat × AVal) := [(78, (.p (I 16))), (79, (.arr 7648 3 0 4 false)), (80, (.arr 20640 29 0 30 false)), (81, (.p (.bool true))), (82, (.p (.bool false))), (84, (.arr 7648 3 0 4 false)), (85, q115), (86, (.arr 7648 3 0 2 false))]
def q117 : List (Nat × AVal) := [(63, (.box 512 0)), (64, (.p c237)), (65, (.arr 118096 0 0 1 false)), (66, (.arr 7648 3 0 4 false)), (67, (.p (.bool true))), (68, (.box 512 0)), (69, (.p c230)), (70, q91)] ++ q116
def q118 : List (Nat × AVal) := [(55, (.arr 7648 3 0 4 false)), (56, (.p (I 4))), (57, (.arr 208 0 0 16 false)), (58, (.p (I 16))), (59, (.p (I 16))), (60, (.p (.bool false))), (61, (.el 208 0 15 0)), (62, (.p c237))] ++ q117
def q119 : List (Nat × AVal) := [(47, (.arr 64 0 0 2 false)), (48, (.p .nils)), (49, (.p (I 3))), (50, (.p (.bool false))), (51, (.p (.bool true))), (52, (.arr 7648 2 0 3 false)), (53, (.p (I 3))), (54, (.cl [(I 3)]))] ++ q118
def q120 : List (Nat × AVal) := [(39, (.p (.bool false))), (40, (.box 0 3)), (41, (.p (.sl [q5, q6, q7, q9]))), (42, (.p (I 4))), (43, (.p (I 4))), (44, (.p (.bool false))), (45, (.p (I 3))), (46, (.box 512 0))] ++ q119
def q121 : List (Nat × AVal) := [(31, q22), (32, (.box 512 0)), (33, (.p (.bool true))), (34, (.p (.bool true))), (35, (.p (.bool false))), (36, (.p (.bool false))), (37, (.p (.bool true))), (38, (.p (.bool false)))] ++ q120
def q122 : List (Nat × AVal) := [(22, (.p (.bool false))), (24, q17), (25, (.p c225)), (26, q17), (27, (.arr 208 0 0 16 false)), (28, (.p (.bool true))), (29, q22), (30, (.p c225))] ++ q121
def q123 : List (Nat × AVal) := [(12, (.box 9744 0)), (14, (.p c237)), (16, q11), (17, (.p c225)), (18, q11), (19, (.arr 64 0 0 2 false)), (20, (.p (I 0))), (21, (.p (I 0)))] ++ q122
def q124 : List (Nat × AVal) := [(4, (.arr 64 0 0 2 false)), (5, (.p (I 0))), (6, (.arr 208 0 0 16 false)), (7, (.p (.bool true))), (8, (.box 384 0)), (9, (.p (.bool true))), (10, (.arr 7648 3 0 2 false)), (11, (.p (I 3)))] ++ q123
def q125 : List (Nat × AVal) := [(0, (.p c225)), (1, (.box 0 0)), (2, (.p .nils)), (3, (.p (I 0)))] ++ q124
def T16 : List (Nat × AVal) := q125
def q126 : Sw.Obj := (.arr 1 4 [(.p (I 0)), (.p (I 3)), (.p (I 0)), (.p (I 0))] 3 3 0)
def q127 : List (Nat × Sw.Obj) := [(208, q21), (384, (.box [(.box 512 0)])), (512, q27), (1568, q40), (7648, q126), (9744, q101), (11104, (.ho (.dl true))), (20640, q102)] ++ q104
def q128 : List (Nat × Sw.Obj) := [(0, q10), (64, q14)] ++ q127
def O16 : List (Nat × Sw.Obj) := q128
def q129 : List (Nat × AVal) := [(12, (.box 132800 0)), (14, (.p c237)), (16, q11), (17, (.p c225)), (18, q11), (19, (.arr 64 0 0 2 false)), (20, (.p (I 0))), (21, (.p (I 0)))] ++ q122
def q130 : List (Nat × AVal) := [(4, (.arr 64 0 0 2 false)), (5, (.p (I 0))), (6, (.arr 208 0 0 16 false)), (7, (.p (.bool true))), (8, (.box 384 0)), (9, (.p (.bool true))), (10, (.arr 7648 3 0 2 false)), (11, (.p (I 3)))] ++ q129
def q131 : List (Nat × AVal) := [(0, (.p c225)), (1, (.box 0 0)), (2, (.p .nils)), (3, (.p (I 0)))] ++ q130
def T17 : List (Nat × AVal) := q131
def q132 : List (Nat × Sw.Obj) := [(45920, (.ho (.dl true))), (63328, (.ho (.dl true))), (81536, (.ho (.dl true))), (98864, (.box [(.box 512 0)])), (98880, (.box [(.p c230)])), (98944, (.ho (.dl true))), (118096, q103), (132800, (.box [(.p .nils)]))]
def q133 : List (Nat × Sw.Obj) := [(384, (.box [(.box 512 0)])), (512, q27), (1568, q40), (7648, q126), (9744, q101), (11104, (.ho (.dl true))), (20640, q102), (28512, (.ho (.dl true)))] ++ q132
def q134 : List (Nat × Sw.Obj) := [(0, q10), (64, q14), (208, q21)] ++ q133
def O17 : List (Nat × Sw.Obj) := q134
def q135 : List (Nat × AVal) := [(55, (.arr 7648 3 0 4 false)), (56, (.p (I 4))), (57, (.arr 208 0 0 16 false)), (58, (.p (I 16))), (59, (.p (I 0))), (60, (.p (.bool false))), (61, (.el 208 0 15 0)), (62, (.p c237))] ++ q117
def q136 : List (Nat × AVal) := [(47, (.arr 64 0 0 2 false)), (48, (.p .nils)), (49, (.p (I 3))), (50, (.p (.bool false))), (51, (.p (.bool true))), (52, (.arr 7648 2 0 3 false)), (53, (.p (I 3))), (54, (.cl [(I 3)]))] ++ q135
def q137 : List (Nat × AVal) := [(39, (.p (.bool false))), (40, (.box 0 3)), (41, (.p (.sl [q5, q6, q7, q9]))), (42, (.p (I 4))), (43, (.p (I 4))), (44, (.p (.bool false))), (45, (.p (I 3))), (46, (.box 512 0))] ++ q136
def q138 : List (Nat × AVal) := [(31, q22), (32, (.box 512 0)), (33, (.p (.bool true))), (34, (.p (.bool true))), (35, (.p (.bool false))), (36, (.p (.bool false))), (37, (.p (.bool true))), (38, (.p (.bool false)))] ++ q137
def q139 : List (Nat × AVal) := [(22, (.p (.bool false))), (24, q17), (25, (.p c225)), (26, q17), (27, (.arr 208 0 0 16 false)), (28, (.p (.bool true))), (29, q22), (30, (.p c225))] ++ q138
def q140 : List (Nat × AVal) := [(12, (.box 132800 0)), (14, (.p c237)), (16, q11), (17, (.p c225)), (18, q11), (19, (.arr 64 0 0 2 false)), (20, (.p (I 0))), (21, (.p (I 0)))] ++ q139
def q141 : List (Nat × AVal) := [(4, (.arr 64 0 0 2 false)), (5, (.p (I 0))), (6, (.arr 208 0 0 16 false)), (7, (.p (.bool true))), (8, (.box 384 0)), (9, (.p (.bool true))), (10, (.arr 7648 3 0 2 false)), (11, (.p (I 3)))] ++ q140
def q142 : List (Nat × AVal) := [(0, (.p c225)), (1, (.box 0 0)), (2, (.p .nils)), (3, (.p (I 0)))] ++ q141
def T18 : List (Nat × AVal) := q142
def O18 : List (Nat × Sw.Obj) := q134
def q143 : AVal := (.fn (.func 93) [(.box 168096 0), (.box 168112 0)])
def q144 : List (Nat × AVal) := [(78, (.p (I 3))), (79, (.arr 7648 3 0 4 false)), (80, (.arr 20640 29 0 30 false)), (81, (.p (.bool true))), (82, (.p (.bool false))), (84, (.arr 7648 3 0 4 false)), (85, q115), (86, (.arr 7648 3 0 2 false))]
def q145 : List (Nat × AVal) := [(63, (.box 512 0)), (64, (.p c215)), (65, (.p .nils)), (66, (.arr 7648 3 0 2 false)), (67, (.p (.bool false))), (68, (.box 512 0)), (69, (.p c215)), (70, q143)] ++ q144
def q146 : List (Nat × AVal) := [(55, (.arr 7648 3 0 4 false)), (56, (.p (I 4))), (57, (.arr 208 0 0 16 false)), (58, (.p (I 16))), (59, (.p (I 3))), (60, (.p (.bool true))), (61, (.el 208 0 2 0)), (62, (.p c215))] ++ q145
def q147 : List (Nat × AVal) := [(47, (.arr 64 0 0 2 false)), (48, (.p .nils)), (49, (.p (I 3))), (50, (.p (.bool false))), (51, (.p (.bool true))), (52, (.arr 7648 2 0 3 false)), (53, (.p (I 3))), (54, (.cl [(I 3)]))] ++ q146
def q148 : List (Nat × AVal) := [(39, (.p (.bool false))), (40, (.box 0 3)), (41, (.p (.sl [q5, q6, q7, q9]))), (42, (.p (I 4))), (43, (.p (I 4))), (44, (.p (.bool false))), (45, (.p (I 3))), (46, (.box 512 0))] ++ q147
def q149 : List (Nat × AVal) := [(31, q22), (32, (.box 512 0)), (33, (.p (.bool true))), (34, (.p (.bool true))), (35, (.p (.bool false))), (36, (.p (.bool false))), (37, (.p (.bool true))), (38, (.p (.bool false)))] ++ q148
def q150 : List (Nat × AVal) := [(22, (.p (.bool false))), (24, q17), (25, (.p c225)), (26, q17), (27, (.arr 208 0 0 16 false)), (28, (.p (.bool true))), (29, q22), (30, (.p c225))] ++ q149
def q151 : List (Nat × AVal) := [(12, (.box 132800 0)), (14, (.p c215)), (16, q11), (17, (.p c225)), (18, q11), (19, (.arr 64 0 0 2 false)), (20, (.p (I 0))), (21, (.p (I 0)))] ++ q150
def q152 : List (Nat × AVal) := [(4, (.arr 64 0 0 2 false)), (5, (.p (I 0))), (6, (.arr 208 0 0 16 false)), (7, (.p (.bool true))), (8, (.box 384 0)), (9, (.p (.bool true))), (10, (.arr 7648 3 0 2 false)), (11, (.p (I 3)))] ++ q151
def q153 : List (Nat × AVal) := [(0, (.p c225)), (1, (.box 0 0)), (2, (.p .nils)), (3, (.p (I 0)))] ++ q152
def T19 : List (Nat × AVal) := q153
def q154 : AVal := (.arr 137264 22 0 23 false)
def q155 : Sw.Obj := (.arr 1 23 [(.p (I 1)), (.p (I 1)), (.p (I 1)), (.p (I 1)), (.p (I 2)), (.p (I 2)), (.p (I 2)), (.p (I 1)), (.p (I 1)), (.p (I 1)), (.p (I 1)), (.p (I 1)), (.p (I 1)), (.p (I 1)), (.p (I 2)), (.p (I 2)), (.p (I 2)), (.p (I 1)), (.p (I 1)), (.p (I 1)), (.p (I 2)), (.p (I 2)), (.p (I 2))] 22 0 0)
def q156 : List (Nat × Sw.Obj) := [(98944, (.ho (.dl true))), (132800, (.box [q154])), (133360, (.ho (.dl true))), (137264, q155), (150768, (.ho (.dl true))), (168096, (.box [(.box 512 0)])), (168112, (.box [(.p c215)])), (168176, (.ho (.dl true)))]
def q157 : List (Nat × Sw.Obj) := [(7648, q126), (9744, q101), (11104, (.ho (.dl true))), (20640, q102), (28512, (.ho (.dl true))), (45920, (.ho (.dl true))), (63328, (.ho (.dl true))), (81536, (.ho (.dl true)))] ++ q156
def q158 : List (Nat × Sw.Obj) := [(0, q10), (64, q14), (208, q21), (384, (.box [(.box 512 0)])), (512, q27), (1568, q40)] ++ q157
def O19 : List (Nat × Sw.Obj) := q158
def q159 : AVal := (.fn (.func 93) [(.box 220320 0), (.box 220336 0)])
def q160 : List (Nat × AVal) := [(78, (.p (I 6))), (79, (.arr 7648 3 0 4 false)), (80, (.arr 20640 29 0 30 false)), (81, (.p (.bool true))), (82, (.p (.bool false))), (84, (.arr 7648 3 0 4 false)), (85, q115), (86, (.arr 7648 3 0 2 false))]
def q161 : List (Nat × AVal) := [(63, (.box 512 0)), (64, (.p c294)), (65, (.p .nils)), (66, (.arr 7648 3 0 2 false)), (67, (.p (.bool false))), (68, (.box 512 0)), (69, (.p c294)), (70, q159)] ++ q160
def q162 : List (Nat × AVal) := [(55, (.arr 7648 3 0 4 false)), (56, (.p (I 4))), (57, (.arr 208 0 0 16 false)), (58, (.p (I 16))), (59, (.p (I 6))), (60, (.p (.bool true))), (61, (.el 208 0 5 0)), (62, (.p c294))] ++ q161
def q163 : List (Nat × AVal) := [(47, (.arr 64 0 0 2 false)), (48, (.p .nils)), (49, (.p (I 3))), (50, (.p (.bool false))), (51, (.p (.bool true))), (52, (.arr 7648 2 0 3 false)), (53, (.p (I 3))), (54, (.cl [(I 3)]))] ++ q162
def q164 : List (Nat × AVal) := [(39, (.p (.bool false))), (40, (.box 0 3)), (41, (.p (.sl [q5, q6, q7, q9]))), (42, (.p (I 4))), (43, (.p (I 4))), (44, (.p (.bool false))), (45, (.p (I 3))), (46, (.box 512 0))] ++ q163
def q165 : List (Nat × AVal) := [(31, q22), (32, (.box 512 0)), (33, (.p (.bool true))), (34, (.p (.bool true))), (35, (.p (.bool false))), (36, (.p (.bool false))), (37, (.p (.bool true))), (38, (.p (.bool false)))] ++ q164
def q166 : List (Nat × AVal) := [(22, (.p (.bool false))), (24, q17), (25, (.p c225)), (26, q17), (27, (.arr 208 0 0 16 false)), (28, (.p (.bool true))), (29, q22), (30, (.p c225))] ++ q165
def q167 : List (Nat × AVal) := [(12, (.box 132800 0)), (14, (.p c294)), (16, q11), (17, (.p c225)), (18, q11), (19, (.arr 64 0 0 2 false)), (20, (.p (I 0))), (21, (.p (I 0)))] ++ q166
def q168 : List (Nat × AVal) := [(4, (.arr 64 0 0 2 false)), (5, (.p (I 0))), (6, (.arr 208 0 0 16 false)), (7, (.p (.bool true))), (8, (.box 384 0)), (9, (.p (.bool true))), (10, (.arr 7648 3 0 2 false)), (11, (.p (I 3)))] ++ q167
def q169 : List (Nat × AVal) := [(0, (.p c225)), (1, (.box 0 0)), (2, (.p .nils)), (3, (.p (I 0)))] ++ q168
def T20 : List (Nat × AVal) := q169
def q170 : AVal := (.arr 137264 43 0 44 false)
def q171 : Sw.Obj := (.arr 1 44 [(.p (I 1)), (.p (I 1)), (.p (I 1)), (.p (I 1)), (.p (I 2)), (.p (I 2)), (.p (I 2)), (.p (I 1)), (.p (I 1)), (.p (I 1)), (.p (I 1)), (.p (I 1)), (.p (I 1)), (.p (I 1)), (.p (I 2)), (.p (I 2)), (.p (I 2)), (.p (I 1)), (.p (I 1)), (.p (I 1)), (.p (I 2)), (.p (I 2)), (.p (I 2)), (.p (I 2)), (.p (I 2)), (.p (I 2)), (.p (I 1)), (.p (I 1)), (.p (I 1)), (.p (I 2)), (.p (I 2)), (.p (I 2)), (.p (I 1)), (.p (I 1)), (.p (I 1)), (.p (I 1)), (.p (I 1)), (.p (I 1)), (.p (I 2)), (.p (I 2)), (.p (I 2)), (.p (I 1)), (.p (I 1)), (.p (I 1))] 43 0 0)
def q172 : List (Nat × Sw.Obj) := [(137264, q171), (150768, (.ho (.dl true))), (168176, (.ho (.dl true))), (185584, (.ho (.dl true))), (202992, (.ho (.dl true))), (220320, (.box [(.box 512 0)])), (220336, (.box [(.p c294)])), (220400, (.ho (.dl true)))]
def q173 : List (Nat × Sw.Obj) := [(20640, q102), (28512, (.ho (.dl true))), (45920, (.ho (.dl true))), (63328, (.ho (.dl true))), (81536, (.ho (.dl true))), (98944, (.ho (.dl true))), (132800, (.box [q170])), (133360, (.ho (.dl true)))] ++ q172
def q174 : List (Nat × Sw.Obj) := [(64, q14), (208, q21), (384, (.box [(.box 512 0)])), (512, q27), (1568, q40), (7648, q126), (9744, q101), (11104, (.ho (.dl true)))] ++ q173
def q175 : List (Nat × Sw.Obj) := [(0, q10)] ++ q174
def O20 : List (Nat × Sw.Obj) := q175
def q176 : AVal := (.fn (.func 93) [(.box 272544 0), (.box 272560 0)])
def q177 : List (Nat × AVal) := [(78, (.p (I 9))), (79, (.arr 7648 3 0 4 false)), (80, (.arr 20640 29 0 30 false)), (81, (.p (.bool true))), (82, (.p (.bool false))), (84, (.arr 7648 3 0 4 false)), (85, q115), (86, (.arr 7648 3 0 2 false))]
def q178 : List (Nat × AVal) := [(63, (.box 512 0)), (64, (.p c218)), (65, (.p .nils)), (66, (.arr 7648 3 0 2 false)), (67, (.p (.bool false))), (68, (.box 512 0)), (69, (.p c218)), (70, q176)] ++ q177
def q179 : List (Nat × AVal) := [(55, (.arr 7648 3 0 4 false)), (56, (.p (I 4))), (57, (.arr 208 0 0 16 false)), (58, (.p (I 16))), (59, (.p (I 9))), (60, (.p (.bool true))), (61, (.el 208 0 8 0)), (62, (.p c218))] ++ q178
def q180 : List (Nat × AVal) := [(47, (.arr 64 0 0 2 false)), (48, (.p .nils)), (49, (.p (I 3))), (50, (.p (.bool false))), (51, (.p (.bool true))), (52, (.arr 7648 2 0 3 false)), (53, (.p (I 3))), (54, (.cl [(I 3)]))] ++ q179
def q181 : List (Nat × AVal) := [(39, (.p (.bool false))), (40, (.box 0 3)), (41, (.p (.sl [q5, q6, q7, q9]))), (42, (.p (I 4))), (43, (.p (I 4))), (44, (.p (.bool false))), (45, (.p (I 3))), (46, (.box 512 0))] ++ q180
def q182 : List (Nat × AVal) := [(31, q22), (32, (.box 512 0)), (33, (.p (.bool true))), (34, (.p (.bool true))), (35, (.p (.bool false))), (36, (.p (.bool false))), (37, (.p (.bool true))), (38, (.p (.bool false)))] ++ q181
def q183 : List (Nat × AVal) := [(22, (.p (.bool false))), (24, q17), (25, (.p c225)), (26, q17), (27, (.arr 208 0 0 16 false)), (28, (.p (.bool true))), (29, q22), (30, (.p c225))] ++ q182
def q184 : List (Nat × AVal) := [(12, (.box 132800 0)), (14, (.p c218)), (16, q11), (17, (.p c225)), (18, q11), (19, (.arr 64 0 0 2 false)), (20, (.p (I 0))), (21, (.p (I 0)))] ++ q183
def q185 : List (Nat × AVal) := [(4, (.arr 64 0 0 2 false)), (5, (.p (I 0))), (6, (.arr 208 0 0 16 false)), (7, (.p (.bool true))), (8, (.box 384 0)), (9, (.p (.bool true))), (10, (.arr 7648 3 0 2 false)), (11, (.p (I 3)))] ++ q184
def q186 : List (Nat × AVal) := [(0, (.p c225)), (1, (.box 0 0)), (2, (.p .nils)), (3, (.p (I 0)))] ++ q185
def T21 : List (Nat × AVal) := q186
def q187 : AVal := (.arr 137264 70 0 71 false)
def q188 : Sw.Obj := (.arr 1 71 [(.p (I 1)), (.p (I 1)), (.p (I 1)), (.p (I 1)), (.p (I 2)), (.p (I 2)), (.p (I 2)), (.p (I 1)), (.p (I 1)), (.p (I 1)), (.p (I 1)), (.p (I 1)), (.p (I 1)), (.p (I 1)), (.p (I 2)), (.p (I 2)), (.p (I 2)), (.p (I 1)), (.p (I 1)), (.p (I 1)), (.p (I 2)), (.p (I 2)), (.p (I 2)), (.p (I 2)), (.p (I 2)), (.p (I 2)), (.p (I 1)), (.p (I 1)), (.p (I 1)), (.p (I 2)), (.p (I 2)), (.p (I 2)), (.p (I 1)), (.p (I 1)), (.p (I 1)), (.p (I 1)), (.p (I 1)), (.p (I 1)), (.p (I 2)), (.p (I 2)), (.p (I 2)), (.p (I 1)), (.p (I 1)), (.p (I 1)), (.p (I 2)), (.p (I 2)), (.p (I 1)), (.p (I 2)), (.p (I 2)), (.p (I 2)), (.p (I 2)), (.p (I 2)), (.p (I 2)), (.p (I 2)), (.p (I 2)), (.p (I 2)), (.p (I 2)), (.p (I 2)), (.p (I 1)), (.p (I 2)), (.p (I 2)), (.p (I 2)), (.p (I 2)), (.p (I 2)), (.p (I 2)), (.p (I 2)), (.p (I 2)), (.p (I 2)), (.p (I 2)), (.p (I 2)), (.p (I 2))] 70 0 0)
def q189 : List (Nat × Sw.Obj) := [(185584, (.ho (.dl true))), (202992, (.ho (.dl true))), (220400, (.ho (.dl true))), (237808, (.ho (.dl true))), (255216, (.ho (.dl true))), (272544, (.box [(.box 512 0)])), (272560, (.box [(.p c218)])), (272624, (.ho (.dl true)))]
def q190 : List (Nat × Sw.Obj) := [(63328, (.ho (.dl true))), (81536, (.ho (.dl true))), (98944, (.ho (.dl true))), (132800, (.box [q187])), (133360, (.ho (.dl true))), (137264, q188), (150768, (.ho (.dl true))), (168176, (.ho (.dl true)))] ++ q189
def q191 : List (Nat × Sw.Obj) := [(512, q27), (1568, q40), (7648, q126), (9744, q101), (11104, (.ho (.dl true))), (20640, q102), (28512, (.ho (.dl true))), (45920, (.ho (.dl true)))] ++ q190
def q192 : List (Nat × Sw.Obj) := [(0, q10), (64, q14), (208, q21), (384, (.box [(.box 512 0)]))] ++ q191
def O21 : List (Nat × Sw.Obj) := q192
def q193 : AVal := (.fn (.func 93) [(.box 324768 0), (.box 324784 0)])
def q194 : List (Nat × AVal) := [(78, (.p (I 12))), (79, (.arr 7648 3 0 4 false)), (80, (.arr 20640 29 0 30 false)), (81, (.p (.bool true))), (82, (.p (.bool false))), (84, (.arr 7648 3 0 4 false)), (85, q115), (86, (.arr 7648 3 0 2 false))]
def q195 : List (Nat × AVal) := [(63, (.box 512 0)), (64, (.p c229)), (65, (.arr 324592 0 0 1 false)), (66, (.arr 7648 3 0 2 false)), (67, (.p (.bool false))), (68, (.box 512 0)), (69, (.p c229)), (70, q193)] ++ q194
def q196 : List (Nat × AVal) := [(55, (.arr 7648 3 0 4 false)), (56, (.p (I 4))), (57, (.arr 208 0 0 16 false)), (58, (.p (I 16))), (59, (.p (I 12))), (60, (.p (.bool true))), (61, (.el 208 0 11 0)), (62, (.p c229))] ++ q195
def q197 : List (Nat × AVal) := [(47, (.arr 64 0 0 2 false)), (48, (.p .nils)), (49, (.p (I 3))), (50, (.p (.bool false))), (51, (.p (.bool true))), (52, (.arr 7648 2 0 3 false)), (53, (.p (I 3))), (54, (.cl [(I 3)]))] ++ q196
def q198 : List (Nat × AVal) := [(39, (.p (.bool false))), (40, (.box 0 3)), (41, (.p (.sl [q5, q6, q7, q9]))), (42, (.p (I 4))), (43, (.p (I 4))), (44, (.p (.bool false))), (45, (.p (I 3))), (46, (.box 512 0))] ++ q197
def q199 : List (Nat × AVal) := [(31, q22), (32, (.box 512 0)), (33, (.p (.bool true))), (34, (.p (.bool true))), (35, (.p (.bool false))), (36, (.p (.bool false))), (37, (.p (.bool true))), (38, (.p (.bool false)))] ++ q198
def q200 : List (Nat × AVal) := [(22, (.p (.bool false))), (24, q17), (25, (.p c225)), (26, q17), (27, (.arr 208 0 0 16 false)), (28, (.p (.bool true))), (29, q22), (30, (.p c225))] ++ q199
def q201 : List (Nat × AVal) := [(12, (.box 132800 0)), (14, (.p c229)), (16, q11), (17, (.p c225)), (18, q11), (19, (.arr 64 0 0 2 false)), (20, (.p (I 0))), (21, (.p (I 0)))] ++ q200
def q202 : List (Nat × AVal) := [(4, (.arr 64 0 0 2 false)), (5, (.p (I 0))), (6, (.arr 208 0 0 16 false)), (7, (.p (.bool true))), (8, (.box 384 0)), (9, (.p (.bool true))), (10, (.arr 7648 3 0 2 false)), (11, (.p (I 3)))] ++ q201
def q203 : List (Nat × AVal) := [(0, (.p c225)), (1, (.box 0 0)), (2, (.p .nils)), (3, (.p (I 0)))] ++ q202
def T22 : List (Nat × AVal) := q203
def q204 : AVal := (.arr 137264 95 0 96 false)
def q205 : Sw.Obj := (.arr 1 96 [(.p (I 1)), (.p (I 1)), (.p (I 1)), (.p (I 1)), (.p (I 2)), (.p (I 2)), (.p (I 2)), (.p (I 1)), (.p (I 1)), (.p (I 1)), (.p (I 1)), (.p (I 1)), (.p (I 1)), (.p (I 1)), (.p (I 2)), (.p (I 2)), (.p (I 2)), (.p (I 1)), (.p (I 1)), (.p (I 1)), (.p (I 2)), (.p (I 2)), (.p (I 2)), (.p (I 2)), (.p (I 2)), (.p (I 2)), (.p (I 1)), (.p (I 1)), (.p (I 1)), (.p (I 2)), (.p (I 2)), (.p (I 2)), (.p (I 1)), (.p (I 1)), (.p (I 1)), (.p (I 1)), (.p (I 1)), (.p (I 1)), (.p (I 2)), (.p (I 2)), (.p (I 2)), (.p (I 1)), (.p (I 1)), (.p (I 1)), (.p (I 2)), (.p (I 2)), (.p (I 1)), (.p (I 2)), (.p (I 2)), (.p (I 2)), (.p (I 2)), (.p (I 2)), (.p (I 2)), (.p (I 2)), (.p (I 2)), (.p (I 2)), (.p (I 2)), (.p (I 2)), (.p (I 1)), (.p (I 2)), (.p (I 2)), (.p (I 2)), (.p (I 2)), (.p (I 2)), (.p (I 2)), (.p (I 2)), (.p (I 2)), (.p (I 2)), (.p (I 2)), (.p (I 2)), (.p (I 2)), (.p (I 2)), (.p (I 2)), (.p (I 2)), (.p (I 2)), (.p (I 2)), (.p (I 2)), (.p (I 2)), (.p (I 2)), (.p (I 2)), (.p (I 2)), (.p (I 2)), (.p (I 2)), (.p (I 2)), (.p (I 2)), (.p (I 2)), (.p (I 2)), (.p (I 2)), (.p (I 2)), (.p (I 2)), (.p (I 2)), (.p (I 2)), (.p (I 2)), (.p (I 2)), (.p (I 2)), (.p (I 2))] 95 0 0)
def q206 : List (Nat × Sw.Obj) := [(255216, (.ho (.dl true))), (272624, (.ho (.dl true))), (290032, (.ho (.dl true))), (307440, (.ho (.dl true))), (324592, q103), (324768, (.box [(.box 512 0)])), (324784, (.box [(.p c229)])), (324848, (.ho (.dl true)))]
def q207 : List (Nat × Sw.Obj) := [(133360, (.ho (.dl true))), (137264, q205), (150768, (.ho (.dl true))), (168176, (.ho (.dl true))), (185584, (.ho (.dl true))), (202992, (.ho (.dl true))), (220400, (.ho (.dl true))), (237808, (.ho (.dl true)))] ++ q206
def q208 : List (Nat × Sw.Obj) := [(11104, (.ho (.dl true))), (20640, q102), (28512, (.ho (.dl true))), (45920, (.ho (.dl true))), (63328, (.ho (.dl true))), (81536, (.ho (.dl true))), (98944, (.ho (.dl true))), (132800, (.box [q204]))] ++ q207
def q209 : List (Nat × Sw.Obj) := [(0, q10), (64, q14), (208, q21), (384, (.box [(.box 512 0)])), (512, q27), (1568, q40), (7648, q126), (9744, q101)] ++ q208
def O22 : List (Nat × Sw.Obj) := q209
def q210 : AVal := (.fn (.func 93) [(.box 376992 0), (.box 377008 0)])
def q211 : List (Nat × AVal) := [(78, (.p (I 15))), (79, (.arr 7648 3 0 4 false)), (80, (.arr 20640 29 0 30 false)), (81, (.p (.bool true))), (82, (.p (.bool false))), (84, (.arr 7648 3 0 4 false)), (85, q115), (86, (.arr 7648 3 0 2 false))]
def q212 : List (Nat × AVal) := [(63, (.box 512 0)), (64, (.p c242)), (65, (.arr 376816 0 0 1 false)), (66, (.arr 7648 3 0 2 false)), (67, (.p (.bool false))), (68, (.box 512 0)), (69, (.p c242)), (70, q210)] ++ q211
def q213 : List (Nat × AVal) := [(55, (.arr 7648 3 0 4 false)), (56, (.p (I 4))), (57, (.arr 208 0 0 16 false)), (58, (.p (I 16))), (59, (.p (I 15))), (60, (.p (.bool true))), (61, (.el 208 0 14 0)), (62, (.p c242))] ++ q212
def q214 : List (Nat × AVal) := [(47, (.arr 64 0 0 2 false)), (48, (.p .nils)), (49, (.p (I 3))), (50, (.p (.bool false))), (51, (.p (.bool true))), (52, (.arr 7648 2 0 3 false)), (53, (.p (I 3))), (54, (.cl [(I 3)]))] ++ q213
def q215 : List (Nat × AVal) := [(39, (.p (.bool false))), (40, (.box 0 3)), (41, (.p (.sl [q5, q6, q7, q9]))), (42, (.p (I 4))), (43, (.p (I 4))), (44, (.p (.bool false))), (45, (.p (I 3))), (46, (.box 512 0))] ++ q214
def q216 : List (Nat × AVal) := [(31, q22), (32, (.box 512 0)), (33, (.p (.bool true))), (34, (.p (.bool true))), (35, (.p (.bool false))), (36, (.p (.bool false))), (37, (.p (.bool true))), (38, (.p (.bool false)))] ++ q215
def q217 : List (Nat × AVal) := [(22, (.p (.bool false))), (24, q17), (25, (.p c225)), (26, q17), (27, (.arr 208 0 0 16 false)), (28, (.p (.bool true))), (29, q22), (30, (.p c225))] ++ q216
def q218 : List (Nat × AVal) := [(12, (.box 132800 0)), (14, (.p c242)), (16, q11), (17, (.p c225)), (18, q11), (19, (.arr 64 0 0 2 false)), (20, (.p (I 0))), (21, (.p (I 0)))] ++ q217
def q219 : List (Nat × AVal) := [(4, (.arr 64 0 0 2 false)), (5, (.p (I 0))), (6, (.arr 208 0 0 16 false)), (7, (.p (.bool true))), (8, (.box 384 0)), (9, (.p (.bool true))), (10, (.arr 7648 3 0 2 false)), (11, (.p (I 3)))] ++ q218
def q220 : List (Nat × AVal) := [(0, (.p c225)), (1, (.box 0 0)), (2, (.p .nils)), (3, (.p (I 0)))] ++ q219
def T23 : List (Nat × AVal) := q220
def q221 : AVal := (.arr 137264 128 0 129 false)
def q222 : Sw.Obj := (.arr 1 129 [(.p (I 1)), (.p (I 1)), (.p (I 1)), (.p (I 1)), (.p (I 2)), (.p (I 2)), (.p (I 2)), (.p (I 1)), (.p (I 1)), (.p (I 1)), (.p (I 1)), (.p (I 1)), (.p (I 1)), (.p (I 1)), (.p (I 2)), (.p (I 2)), (.p (I 2)), (.p (I 1)), (.p (I 1)), (.p (I 1)), (.p (I 2)), (.p (I 2)), (.p (I 2)), (.p (I 2)), (.p (I 2)), (.p (I 2)), (.p (I 1)), (.p (I 1)), (.p (I 1)), (.p (I 2)), (.p (I 2)), (.p (I 2)), (.p (I 1)), (.p (I 1)), (.p (I 1)), (.p (I 1)), (.p (I 1)), (.p (I 1)), (.p (I 2)), (.p (I 2)), (.p (I 2)), (.p (I 1)), (.p (I 1)), (.p (I 1)), (.p (I 2)), (.p (I 2)), (.p (I 1)), (.p (I 2)), (.p (I 2)), (.p (I 2)), (.p (I 2)), (.p (I 2)), (.p (I 2)), (.p (I 2)), (.p (I 2)), (.p (I 2)), (.p (I 2)), (.p (I 2)), (.p (I 1)), (.p (I 2)), (.p (I 2)), (.p (I 2)), (.p (I 2)), (.p (I 2)), (.p (I 2)), (.p (I 2)), (.p (I 2)), (.p (I 2)), (.p (I 2)), (.p (I 2)), (.p (I 2)), (.p (I 2)), (.p (I 2)), (.p (I 2)), (.p (I 2)), (.p (I 2)), (.p (I 2)), (.p (I 2)), (.p (I 2)), (.p (I 2)), (.p (I 2)), (.p (I 2)), (.p (I 2)), (.p (I 2)), (.p (I 2)), (.p (I 2)), (.p (I 2)), (.p (I 2)), (.p (I 2)), (.p (I 2)), (.p (I 2)), (.p (I 2)), (.p (I 2)), (.p (I 2)), (.p (I 2)), (.p (I 2)), (.p (I 2)), (.p (I 2)), (.p (I 2)), (.p (I 2)), (.p (I 2)), (.p (I 2)), (.p (I 2)), (.p (I 2)), (.p (I 2)), (.p (I 2)), (.p (I 2)), (.p (I 2)), (.p (I 2)), (.p (I 2)), (.p (I 2)), (.p (I 2)), (.p (I 2)), (.p (I 2)), (.p (I 2)), (.p (I 2)), (.p (I 2)), (.p (I 2)), (.p (I 2)), (.p (I 2)), (.p (I 2)), (.p (I 2)), (.p (I 2)), (.p (I 2)), (.p (I 2)), (.p (I 2)), (.p (I 2)), (.p (I 2)), (.p (I 2))] 128 0 0)
def q223 : List (Nat × Sw.Obj) := [(307440, (.ho (.dl true))), (324848, (.ho (.dl true))), (342256, (.ho (.dl true))), (359664, (.ho (.dl true))), (376816, q103), (376992, (.box [(.box 512 0)])), (377008, (.box [(.p c242)])), (377072, (.ho (.dl true)))]
def q224 : List (Nat × Sw.Obj) := [(168176, (.ho (.dl true))), (185584, (.ho (.dl true))), (202992, (.ho (.dl true))), (220400, (.ho (.dl true))), (237808, (.ho (.dl true))), (255216, (.ho (.dl true))), (272624, (.ho (.dl true))), (290032, (.ho (.dl true)))] ++ q223
def q225 : List (Nat × Sw.Obj) := [(45920, (.ho (.dl true))), (63328, (.ho (.dl true))), (81536, (.ho (.dl true))), (98944, (.ho (.dl true))), (132800, (.box [q221])), (133360, (.ho (.dl true))), (137264, q222), (150768, (.ho (.dl true)))] ++ q224
def q226 : List (Nat × Sw.Obj) := [(384, (.box [(.box 512 0)])), (512, q27), (1568, q40), (7648, q126), (9744, q101), (11104, (.ho (.dl true))), (20640, q102), (28512, (.ho (.dl true)))] ++ q225
def q227 : List (Nat × Sw.Obj) := [(0, q10), (64, q14), (208, q21)] ++ q226
def O23 : List (Nat × Sw.Obj) := q227
def q228 : AVal := (.fn (.func 93) [(.box 394400 0), (.box 394416 0)])
def q229 : List (Nat × AVal) := [(63, (.box 512 0)), (64, (.p c237)), (65, (.arr 394224 0 0 1 false)), (66, (.arr 7648 3 0 2 false)), (67, (.p (.bool false))), (68, (.box 512 0)), (69, (.p c237)), (70, q228)] ++ q116
def q230 : List (Nat × AVal) := [(55, (.arr 7648 3 0 4 false)), (56, (.p (I 4))), (57, (.arr 208 0 0 16 false)), (58, (.p (I 16))), (59, (.p (I 16))), (60, (.p (.bool true))), (61, (.el 208 0 15 0)), (62, (.p c237))] ++ q229
def q231 : List (Nat × AVal) := [(47, (.arr 64 0 0 2 false)), (48, (.p .nils)), (49, (.p (I 3))), (50, (.p (.bool false))), (51, (.p (.bool true))), (52, (.arr 7648 2 0 3 false)), (53, (.p (I 3))), (54, (.cl [(I 3)]))] ++ q230
def q232 : List (Nat × AVal) := [(39, (.p (.bool false))), (40, (.box 0 3)), (41, (.p (.sl [q5, q6, q7, q9]))), (42, (.p (I 4))), (43, (.p (I 4))), (44, (.p (.bool false))), (45, (.p (I 3))), (46, (.box 512 0))] ++ q231
def q233 : List (Nat × AVal) := [(31, q22), (32, (.box 512 0)), (33, (.p (.bool true))), (34, (.p (.bool true))), (35, (.p (.bool false))), (36, (.p (.bool false))), (37, (.p (.bool true))), (38, (.p (.bool false)))] ++ q232
def q234 : List (Nat × AVal) := [(22, (.p (.bool false))), (24, q17), (25, (.p c225)), (26, q17), (27, (.arr 208 0 0 16 false)), (28, (.p (.bool true))), (29, q22), (30, (.p c225))] ++ q233
def q235 : List (Nat × AVal) := [(12, (.box 132800 0)), (14, (.p c237)), (16, q11), (17, (.p c225)), (18, q11), (19, (.arr 64 0 0 2 false)), (20, (.p (I 0))), (21, (.p (I 0)))] ++ q234
def q236 : List (Nat × AVal) := [(4, (.arr 64 0 0 2 false)), (5, (.p (I 0))), (6, (.arr 208 0 0 16 false)), (7, (.p (.bool true))), (8, (.box 384 0)), (9, (.p (.bool true))), (10, (.arr 7648 3 0 2 false)), (11, (.p (I 3)))] ++ q235
def q237 : List (Nat × AVal) := [(0, (.p c225)), (1, (.box 0 0)), (2, (.p .nils)), (3, (.p (I 0)))] ++ q236
def T24 : List (Nat × AVal) := q237
def q238 : AVal := (.arr 137264 139 0 140 false)
def q239 : Sw.Obj := (.arr 1 140 [(.p (I 1)), (.p (I 1)), (.p (I 1)), (.p (I 1)), (.p (I 2)), (.p (I 2)), (.p (I 2)), (.p (I 1)), (.p (I 1)), (.p (I 1)), (.p (I 1)), (.p (I 1)), (.p (I 1)), (.p (I 1)), (.p (I 2)), (.p (I 2)), (.p (I 2)), (.p (I 1)), (.p (I 1)), (.p (I 1)), (.p (I 2)), (.p (I 2)), (.p (I 2)), (.p (I 2)), (.p (I 2)), (.p (I 2)), (.p (I 1)), (.p (I 1)), (.p (I 1)), (.p (I 2)), (.p (I 2)), (.p (I 2)), (.p (I 1)), (.p (I 1)), (.p (I 1)), (.p (I 1)), (.p (I 1)), (.p (I 1)), (.p (I 2)), (.p (I 2)), (.p (I 2)), (.p (I 1)), (.p (I 1)), (.p (I 1)), (.p (I 2)), (.p (I 2)), (.p (I 1)), (.p (I 2)), (.p (I 2)), (.p (I 2)), (.p (I 2)), (.p (I 2)), (.p (I 2)), (.p (I 2)), (.p (I 2)), (.p (I 2)), (.p (I 2)), (.p (I 2)), (.p (I 1)), (.p (I 2)), (.p (I 2)), (.p (I 2)), (.p (I 2)), (.p (I 2)), (.p (I 2)), (.p (I 2)), (.p (I 2)), (.p (I 2)), (.p (I 2)), (.p (I 2)), (.p (I 2)), (.p (I 2)), (.p (I 2)), (.p (I 2)), (.p (I 2)), (.p (I 2)), (.p (I 2)), (.p (I 2)), (.p (I 2)), (.p (I 2)), (.p (I 2)), (.p (I 2)), (.p (I 2)), (.p (I 2)), (.p (I 2)), (.p (I 2)), (.p (I 2)), (.p (I 2)), (.p (I 2)), (.p (I 2)), (.p (I 2)), (.p (I 2)), (.p (I 2)), (.p (I 2)), (.p (I 2)), (.p (I 2)), (.p (I 2)), (.p (I 2)), (.p (I 2)), (.p (I 2)), (.p (I 2)), (.p (I 2)), (.p (I 2)), (.p (I 2)), (.p (I 2)), (.p (I 2)), (.p (I 2)), (.p (I 2)), (.p (I 2)), (.p (I 2)), (.p (I 2)), (.p (I 2)), (.p (I 2)), (.p (I 2)), (.p (I 2)), (.p (I 2)), (.p (I 2)), (.p (I 2)), (.p (I 2)), (.p (I 2)), (.p (I 2)), (.p (I 2)), (.p (I 2)), (.p (I 2)), (.p (I 2)), (.p (I 2)), (.p (I 2)), (.p (I 2)), (.p (I 2)), (.p (I 2)), (.p (I 2)), (.p (I 2)), (.p (I 2)), (.p (I 2)), (.p (I 2)), (.p (I 2)), (.p (I 2)), (.p (I 2)), (.p (I 2)), (.p (I 2))] 139 0 0)
def q240 : List (Nat × Sw.Obj) := [(324848, (.ho (.dl true))), (342256, (.ho (.dl true))), (359664, (.ho (.dl true))), (377072, (.ho (.dl true))), (394224, q103), (394400, (.box [(.box 512 0)])), (394416, (.box [(.p c237)])), (394480, (.ho (.dl true)))]
def q241 : List (Nat × Sw.Obj) := [(185584, (.ho (.dl true))), (202992, (.ho (.dl true))), (220400, (.ho (.dl true))), (237808, (.ho (.dl true))), (255216, (.ho (.dl true))), (272624, (.ho (.dl true))), (290032, (.ho (.dl true))), (307440, (.ho (.dl true)))] ++ q240
def q242 : List (Nat × Sw.Obj) := [(63328, (.ho (.dl true))), (81536, (.ho (.dl true))), (98944, (.ho (.dl true))), (132800, (.box [q238])), (133360, (.ho (.dl true))), (137264, q239), (150768, (.ho (.dl true))), (168176, (.ho (.dl true)))] ++ q241
def q243 : List (Nat × Sw.Obj) := [(512, q27), (1568, q40), (7648, q126), (9744, q101), (11104, (.ho (.dl true))), (20640, q102), (28512, (.ho (.dl true))), (45920, (.ho (.dl true)))] ++ q242
def q244 : List (Nat × Sw.Obj) := [(0, q10), (64, q14), (208, q21), (384, (.box [(.box 512 0)]))] ++ q243
def O24 : List (Nat × Sw.Obj) := q244
def q245 : List (Nat × AVal) := [(55, (.arr 7648 3 0 4 false)), (56, (.p (I 4))), (57, (.arr 208 0 0 16 false)), (58, (.p (I 16))), (59, (.p (I 16))), (60, (.p (.bool false))), (61, (.el 208 0 15 0)), (62, (.p c237))] ++ q229
def q246 : List (Nat × AVal) := [(47, (.arr 64 0 0 2 false)), (48, (.p .nils)), (49, (.p (I 3))), (50, (.p (.bool false))), (51, (.p (.bool true))), (52, (.arr 7648 2 0 3 false)), (53, (.p (I 3))), (54, (.cl [(I 3)]))] ++ q245
def q247 : List (Nat × AVal) := [(39, (.p (.bool false))), (40, (.box 0 3)), (41, (.p (.sl [q5, q6, q7, q9]))), (42, (.p (I 4))), (43, (.p (I 4))), (44, (.p (.bool false))), (45, (.p (I 3))), (46, (.box 512 0))] ++ q246
def q248 : List (Nat × AVal) := [(31, q22), (32, (.box 512 0)), (33, (.p (.bool true))), (34, (.p (.bool true))), (35, (.p (.bool false))), (36, (.p (.bool false))), (37, (.p (.bool true))), (38, (.p (.bool false)))] ++ q247
def q249 : List (Nat × AVal) := [(22, (.p (.bool false))), (24, q17), (25, (.p c225)), (26, q17), (27, (.arr 208 0 0 16 false)), (28, (.p (.bool true))), (29, q22), (30, (.p c225))] ++ q248
def q250 : List (Nat × AVal) := [(12, (.box 132800 0)), (14, (.p c237)), (16, q11), (17, (.p c225)), (18, q11), (19, (.arr 64 0 0 2 false)), (20, (.p (I 0))), (21, (.p (I 0)))] ++ q249
def q251 : List (Nat × AVal) := [(4, (.arr 64 0 0 2 false)), (5, (.p (I 0))), (6, (.arr 208 0 0 16 false)), (7, (.p (.bool true))), (8, (.box 384 0)), (9, (.p (.bool true))), (10, (.arr 7648 3 0 2 false)), (11, (.p (I 3)))] ++ q250
def q252 : List (Nat × AVal) := [(0, (.p c225)), (1, (.box 0 0)), (2, (.p .nils)), (3, (.p (I 0)))] ++ q251
def T25 : List (Nat × AVal) := q252
def O25 : List (Nat × Sw.Obj) := q244
def q253 : List (Nat × AVal) := [(79, (.arr 7648 3 0 2 false)), (80, q238), (81, (.p (.bool false))), (82, (.p (.bool true))), (83, (.arr 7648 3 0 2 false)), (84, (.arr 7648 3 0 4 false)), (85, q115), (86, (.arr 7648 3 0 2 false))]
def q254 : List (Nat × AVal) := [(64, (.p c237)), (65, (.arr 394224 0 0 1 false)), (66, (.arr 7648 3 0 2 false)), (67, (.p (.bool false))), (68, (.box 512 0)), (69, (.p c237)), (70, q228), (78, (.p (I 16)))] ++ q253
def q255 : List (Nat × AVal) := [(56, (.p (I 4))), (57, (.arr 208 0 0 16 false)), (58, (.p (I 16))), (59, (.p (I 16))), (60, (.p (.bool false))), (61, (.el 208 0 15 0)), (62, (.p c237)), (63, (.box 512 0))] ++ q254
def q256 : List (Nat × AVal) := [(48, (.p .nils)), (49, (.p (I 3))), (50, (.p (.bool false))), (51, (.p (.bool true))), (52, (.arr 7648 2 0 3 false)), (53, (.p (I 3))), (54, (.cl [(I 3)])), (55, (.arr 7648 3 0 4 false))] ++ q255
def q257 : List (Nat × AVal) := [(40, (.box 0 3)), (41, (.p (.sl [q5, q6, q7, q9]))), (42, (.p (I 4))), (43, (.p (I 4))), (44, (.p (.bool false))), (45, (.p (I 3))), (46, (.box 512 0)), (47, (.arr 64 0 0 2 false))] ++ q256
def q258 : List (Nat × AVal) := [(32, (.box 512 0)), (33, (.p (.bool true))), (34, (.p (.bool true))), (35, (.p (.bool false))), (36, (.p (.bool false))), (37, (.p (.bool true))), (38, (.p (.bool false))), (39, (.p (.bool false)))] ++ q257
def q259 : List (Nat × AVal) := [(24, q17), (25, (.p c225)), (26, q17), (27, (.arr 208 0 0 16 false)), (28, (.p (.bool true))), (29, q22), (30, (.p c225)), (31, q22)] ++ q258
def q260 : List (Nat × AVal) := [(14, (.p c237)), (16, q11), (17, (.p c225)), (18, q11), (19, (.arr 64 0 0 2 false)), (20, (.p (I 0))), (21, (.p (I 0))), (22, (.p (.bool false)))] ++ q259
def q261 : List (Nat × AVal) := [(5, (.p (I 0))), (6, (.arr 208 0 0 16 false)), (7, (.p (.bool true))), (8, (.box 384 0)), (9, (.p (.bool true))), (10, (.arr 7648 3 0 2 false)), (11, (.p (I 3))), (12, (.box 132800 0))] ++ q260
def q262 : List (Nat × AVal) := [(0, (.p c225)), (1, (.box 0 0)), (2, (.arr 7648 3 0 2 false)), (3, (.p (I 0))), (4, (.arr 64 0 0 2 false))] ++ q261
def T26 : List (Nat × AVal) := q262
def O26 : List (Nat × Sw.Obj) := q244
theorem g0 : Goes CC imp Tryz.prog 1000000 87 false (subC [0] bd) (mkFr gl T0 []) (mkSt 0 O0) .normal (mkFr gl T1 []) (mkSt 48 O1) := goes_of (evCall_loc 60) (by kernel_rfl) (by kernel_rfl)
theorem g1 : Goes CC imp Tryz.prog 1000000 87 false (subC [1, 0] bd) (mkFr gl T1 []) (mkSt 48 O1) .normal (mkFr gl T2 []) (mkSt 160 O2) := goes_of (evCall_loc 60) (by kernel_rfl) (by kernel_rfl)
theorem g2 : Goes CC imp Tryz.prog 1000000 87 false (subC [1, 1, 0] bd) (mkFr gl T2 []) (mkSt 160 O2) .normal (mkFr gl T3 []) (mkSt 192 O3) := goes_of (evCall_loc 60) (by kernel_rfl) (by kernel_rfl)
theorem g3 : Goes CC imp Tryz.prog 1000000 87 false (subC [1, 1, 1, 0] bd) (mkFr gl T3 []) (mkSt 192 O3) .normal (mkFr gl T4 []) (mkSt 304 O4) := goes_of (evCall_loc 60) (by kernel_rfl) (by kernel_rfl)
theorem g4 : Goes CC imp Tryz.prog 1000000 87 false (subC [1, 1, 1, 1, 0] bd) (mkFr gl T4 []) (mkSt 304 O4) .normal (mkFr gl T5 []) (mkSt 6864 O5) := goes_of (evCall_loc 60) (by kernel_rfl) (by kernel_rfl)
theorem g5 : Goes CC imp Tryz.prog 1000000 87 false (subC [1, 1, 1, 1, 1, 0] bd) (mkFr gl T5 []) (mkSt 6864 O5) .normal (mkFr gl T6 []) (mkSt 6960 O6) := goes_of (evCall_loc 60) (by kernel_rfl) (by kernel_rfl)
theorem g6 : Goes CC imp Tryz.prog 1000000 87 false (subC [1, 1, 1, 1, 1, 1, 0] bd) (mkFr gl T6 []) (mkSt 6960 O6) .normal (mkFr gl T7 []) (mkSt 6976 O7) := goes_of (evCall_loc 60) (by kernel_rfl) (by kernel_rfl)
theorem g7 : Goes CC imp Tryz.prog 1000000 87 false (subC [1, 1, 1, 1, 1, 1, 1, 0, 0] bd) (mkFr gl T7 []) (mkSt 6976 O7) .normal (mkFr gl T8 []) (mkSt 7040 O8) := goes_of (evCall_loc 60) (by kernel_rfl) (by kernel_rfl)
theorem r8 : runB (mkSt 7040 O8) (O8.map (·.1)) (roundsN (evCode CC imp Tryz.prog 1000000 87 false (subC [1, 1, 1, 1, 1, 1, 1, 0, 1, 0, 0] bd)) 4 (mkFr gl T8 []) (mkSt 7040 O8)) .normal gl T9 [] 9728 O9 = true := by kernel_rfl
theorem r8h : heldB (mkSt 7040 O8) (O8.map (·.1)) = true := by kernel_rfl
theorem g9 : Goes CC imp Tryz.prog 1000000 87 false (subC [1, 1, 1, 1, 1, 1, 1, 0, 1, 0, 0] bd) (mkFr gl T9 []) (mkSt 9728 O9) (.exit 0) (mkFr gl T10 []) (mkSt 9744 O10) := goes_of (evCall_loc 60) (by kernel_rfl) (by kernel_rfl)
theorem g10 : Goes CC imp Tryz.prog 1000000 87 false (subC [1, 1, 1, 1, 1, 1, 1, 0, 1, 0] bd) (mkFr gl T8 []) (mkSt 7040 O8) (.exit 0) (mkFr gl T10 []) (mkSt 9744 O10) := goes_cast (c := .loop (subC [1, 1, 1, 1, 1, 1, 1, 0, 1, 0, 0] bd)) (by kernel_rfl) (goes_loop (by kernel_rfl) (turns_many (evCall_loc 60) r8h r8 (turns_exit g9)))
theorem g11 : Goes CC imp Tryz.prog 1000000 87 false (subC [1, 1, 1, 1, 1, 1, 1, 0, 1] bd) (mkFr gl T8 []) (mkSt 7040 O8) .normal (mkFr gl T10 []) (mkSt 9744 O10) := goes_cast (c := .block 0 (subC [1, 1, 1, 1, 1, 1, 1, 0, 1, 0] bd)) (by kernel_rfl) (goes_block_exit g10)
theorem g12 : Goes CC imp Tryz.prog 1000000 87 false (subC [1, 1, 1, 1, 1, 1, 1, 0] bd) (mkFr gl T7 []) (mkSt 6976 O7) .normal (mkFr gl T10 []) (mkSt 9744 O10) := goes_cast (c := .seq (subC [1, 1, 1, 1, 1, 1, 1, 0, 0] bd) (subC [1, 1, 1, 1, 1, 1, 1, 0, 1] bd)) (by kernel_rfl) (goes_seq g7 g11)
theorem g13 : Goes CC imp Tryz.prog 1000000 87 false (subC [1, 1, 1, 1, 1, 1, 1, 1, 0, 0, 0, 0] bd) (mkFr gl T10 []) (mkSt 9744 O10) .normal (mkFr gl T11 []) (mkSt 9760 O11) := goes_of (evCall_loc 60) (by kernel_rfl) (by kernel_rfl)
theorem g14 : Goes CC imp Tryz.prog 1000000 87 false (subC [1, 1, 1, 1, 1, 1, 1, 1, 0, 0, 0, 1, 0, 0] bd) (mkFr gl T11 []) (mkSt 9760 O11) .normal (mkFr gl T12 []) (mkSt 9808 O12) := goes_of (evCall_loc 60) (by kernel_rfl) (by kernel_rfl)
theorem r15 : runB (mkSt 9808 O12) (O12.map (·.1)) (roundsN (evCode CC imp Tryz.prog 1000000 87 false (subC [1, 1, 1, 1, 1, 1, 1, 1, 0, 0, 0, 1, 0, 1, 0, 0] bd)) 5 (mkFr gl T12 []) (mkSt 9808 O12)) .normal gl T13 [45920, 28512, 11104] 62832 O13 = true := by kernel_rfl
theorem r15h : heldB (mkSt 9808 O12) (O12.map (·.1)) = true := by kernel_rfl
theorem r16 : runB (mkSt 62832 O13) (O13.map (·.1)) (roundsN (evCode CC imp Tryz.prog 1000000 87 false (subC [1, 1, 1, 1, 1, 1, 1, 1, 0, 0, 0, 1, 0, 1, 0, 0] bd)) 11 (mkFr gl T13 [45920, 28512, 11104]) (mkSt 62832 O13)) .normal gl T14 [98944, 81536, 63328, 45920, 28512, 11104] 118256 O14 = true := by kernel_rfl
theorem r16h : heldB (mkSt 62832 O13) (O13.map (·.1)) = true := by kernel_rfl
theorem g17 : Goes CC imp Tryz.prog 1000000 87 false (subC [1, 1, 1, 1, 1, 1, 1, 1, 0, 0, 0, 1, 0, 1, 0, 0] bd) (mkFr gl T14 [98944, 81536, 63328, 45920, 28512, 11104]) (mkSt 118256 O14) (.exit 4) (mkFr gl T15 [98944, 81536, 63328, 45920, 28512, 11104]) (mkSt 118272 O15) := goes_of (evCall_loc 60) (by kernel_rfl) (by kernel_rfl)
theorem g18 : Goes CC imp Tryz.prog 1000000 87 false (subC [1, 1, 1, 1, 1, 1, 1, 1, 0, 0, 0, 1, 0, 1, 0] bd) (mkFr gl T12 []) (mkSt 9808 O12) (.exit 4) (mkFr gl T15 [98944, 81536, 63328, 45920, 28512, 11104]) (mkSt 118272 O15) := goes_cast (c := .loop (subC [1, 1, 1, 1, 1, 1, 1, 1, 0, 0, 0, 1, 0, 1, 0, 0] bd)) (by kernel_rfl) (goes_loop (by kernel_rfl) (turns_many (evCall_loc 60) r15h r15 (turns_many (evCall_loc 60) r16h r16 (turns_exit g17))))
theorem g19 : Goes CC imp Tryz.prog 1000000 87 false (subC [1, 1, 1, 1, 1, 1, 1, 1, 0, 0, 0, 1, 0, 1] bd) (mkFr gl T12 []) (mkSt 9808 O12) .normal (mkFr gl T15 [98944, 81536, 63328, 45920, 28512, 11104]) (mkSt 118272 O15) := goes_cast (c := .block 4 (subC [1, 1, 1, 1, 1, 1, 1, 1, 0, 0, 0, 1, 0, 1, 0] bd)) (by kernel_rfl) (goes_block_exit g18)
theorem g20 : Goes CC imp Tryz.prog 1000000 87 false (subC [1, 1, 1, 1, 1, 1, 1, 1, 0, 0, 0, 1, 0] bd) (mkFr gl T11 []) (mkSt 9760 O11) .normal (mkFr gl T15 [98944, 81536, 63328, 45920, 28512, 11104]) (mkSt 118272 O15) := goes_cast (c := .seq (subC [1, 1, 1, 1, 1, 1, 1, 1, 0, 0, 0, 1, 0, 0] bd) (subC [1, 1, 1, 1, 1, 1, 1, 1, 0, 0, 0, 1, 0, 1] bd)) (by kernel_rfl) (goes_seq g14 g19)
theorem g21 : Goes CC imp Tryz.prog 1000000 87 false (subC [1, 1, 1, 1, 1, 1, 1, 1, 0, 0, 0, 1, 1] bd) (mkFr gl T15 [98944, 81536, 63328, 45920, 28512, 11104]) (mkSt 118272 O15) .normal (mkFr gl T16 [98944, 81536, 63328, 45920, 28512, 11104]) (mkSt 132800 O16) := goes_of (evCall_loc 60) (by kernel_rfl) (by kernel_rfl)
theorem g22 : Goes CC imp Tryz.prog 1000000 87 false (subC [1, 1, 1, 1, 1, 1, 1, 1, 0, 0, 0, 1] bd) (mkFr gl T11 []) (mkSt 9760 O11) .normal (mkFr gl T16 [98944, 81536, 63328, 45920, 28512, 11104]) (mkSt 132800 O16) := goes_cast (c := .seq (subC [1, 1, 1, 1, 1, 1, 1, 1, 0, 0, 0, 1, 0] bd) (subC [1, 1, 1, 1, 1, 1, 1, 1, 0, 0, 0, 1, 1] bd)) (by kernel_rfl) (goes_seq g20 g21)
theorem g23 : Goes CC imp Tryz.prog 1000000 87 false (subC [1, 1, 1, 1, 1, 1, 1, 1, 0, 0, 0] bd) (mkFr gl T10 []) (mkSt 9744 O10) .normal (mkFr gl T16 [98944, 81536, 63328, 45920, 28512, 11104]) (mkSt 132800 O16) := goes_cast (c := .seq (subC [1, 1, 1, 1, 1, 1, 1, 1, 0, 0, 0, 0] bd) (subC [1, 1, 1, 1, 1, 1, 1, 1, 0, 0, 0, 1] bd)) (by kernel_rfl) (goes_seq g13 g22)
theorem g24 : Goes CC imp Tryz.prog 1000000 87 false (subC [1, 1, 1, 1, 1, 1, 1, 1, 0, 0] bd) (mkFr gl T10 []) (mkSt 9744 O10) .normal (mkFr gl T16 [98944, 81536, 63328, 45920, 28512, 11104]) (mkSt 132800 O16) := goes_cast (c := .block 3 (subC [1, 1, 1, 1, 1, 1, 1, 1, 0, 0, 0] bd)) (by kernel_rfl) (goes_block g23)
theorem g25 : Goes CC imp Tryz.prog 1000000 87 false (subC [1, 1, 1, 1, 1, 1, 1, 1, 0, 0, 0, 0] bd) (mkFr gl T16 [98944, 81536, 63328, 45920, 28512, 11104]) (mkSt 132800 O16) .normal (mkFr gl T17 [98944, 81536, 63328, 45920, 28512, 11104]) (mkSt 132816 O17) := goes_of (evCall_loc 60) (by kernel_rfl) (by kernel_rfl)
theorem g26 : Goes CC imp Tryz.prog 1000000 87 false (subC [1, 1, 1, 1, 1, 1, 1, 1, 0, 0, 0, 1, 0, 0] bd) (mkFr gl T17 [98944, 81536, 63328, 45920, 28512, 11104]) (mkSt 132816 O17) .normal (mkFr gl T18 [98944, 81536, 63328, 45920, 28512, 11104]) (mkSt 132864 O18) := goes_of (evCall_loc 60) (by kernel_rfl) (by kernel_rfl)
theorem r27 : runB (mkSt 132864 O18) (O18.map (·.1)) (roundsN (evCode CC imp Tryz.prog 1000000 87 false (subC [1, 1, 1, 1, 1, 1, 1, 1, 0, 0, 0, 1, 0, 1, 0, 0] bd)) 3 (mkFr gl T18 [98944, 81536, 63328, 45920, 28512, 11104]) (mkSt 132864 O18)) .normal gl T19 [168176, 150768, 133360, 98944, 81536, 63328, 45920, 28512, 11104] 185088 O19 = true := by kernel_rfl
theorem r27h : heldB (mkSt 132864 O18) (O18.map (·.1)) = true := by kernel_rfl
theorem r28 : runB (mkSt 185088 O19) (O19.map (·.1)) (roundsN (evCode CC imp Tryz.prog 1000000 87 false (subC [1, 1, 1, 1, 1, 1, 1, 1, 0, 0, 0, 1, 0, 1, 0, 0] bd)) 3 (mkFr gl T19 [168176, 150768, 133360, 98944, 81536, 63328, 45920, 28512, 11104]) (mkSt 185088 O19)) .normal gl T20 [220400, 202992, 185584, 168176, 150768, 133360, 98944, 81536, 63328, 45920, 28512, 11104] 237312 O20 = true := by kernel_rfl
theorem r28h : heldB (mkSt 185088 O19) (O19.map (·.1)) = true := by kernel_rfl
theorem r29 : runB (mkSt 237312 O20) (O20.map (·.1)) (roundsN (evCode CC imp Tryz.prog 1000000 87 false (subC [1, 1, 1, 1, 1, 1, 1, 1, 0, 0, 0, 1, 0, 1, 0, 0] bd)) 3 (mkFr gl T20 [220400, 202992, 185584, 168176, 150768, 133360, 98944, 81536, 63328, 45920, 28512, 11104]) (mkSt 237312 O20)) .normal gl T21 [272624, 255216, 237808, 220400, 202992, 185584, 168176, 150768, 133360, 98944, 81536, 63328, 45920, 28512, 11104] 289536 O21 = true := by kernel_rfl
theorem r29h : heldB (mkSt 237312 O20) (O20.map (·.1)) = true := by kernel_rfl
theorem r30 : runB (mkSt 289536 O21) (O21.map (·.1)) (roundsN (evCode CC imp Tryz.prog 1000000 87 false (subC [1, 1, 1, 1, 1, 1, 1, 1, 0, 0, 0, 1, 0, 1, 0, 0] bd)) 3 (mkFr gl T21 [272624, 255216, 237808, 220400, 202992, 185584, 168176, 150768, 133360, 98944, 81536, 63328, 45920, 28512, 11104]) (mkSt 289536 O21)) .normal gl T22 [324848, 307440, 290032, 272624, 255216, 237808, 220400, 202992, 185584, 168176, 150768, 133360, 98944, 81536, 63328, 45920, 28512, 11104] 341760 O22 = true := by kernel_rfl
theorem r30h : heldB (mkSt 289536 O21) (O21.map (·.1)) = true := by kernel_rfl
theorem r31 : runB (mkSt 341760 O22) (O22.map (·.1)) (roundsN (evCode CC imp Tryz.prog 1000000 87 false (subC [1, 1, 1, 1, 1, 1, 1, 1, 0, 0, 0, 1, 0, 1, 0, 0] bd)) 3 (mkFr gl T22 [324848, 307440, 290032, 272624, 255216, 237808, 220400, 202992, 185584, 168176, 150768, 133360, 98944, 81536, 63328, 45920, 28512, 11104]) (mkSt 341760 O22)) .normal gl T23 [377072, 359664, 342256, 324848, 307440, 290032, 272624, 255216, 237808, 220400, 202992, 185584, 168176, 150768, 133360, 98944, 81536, 63328, 45920, 28512, 11104] 393984 O23 = true := by kernel_rfl
theorem r31h : heldB (mkSt 341760 O22) (O22.map (·.1)) = true := by kernel_rfl
theorem r32 : runB (mkSt 393984 O23) (O23.map (·.1)) (roundsN (evCode CC imp Tryz.prog 1000000 87 false (subC [1, 1, 1, 1, 1, 1, 1, 1, 0, 0, 0, 1, 0, 1, 0, 0] bd)) 1 (mkFr gl T23 [377072, 359664, 342256, 324848, 307440, 290032, 272624, 255216, 237808, 220400, 202992, 185584, 168176, 150768, 133360, 98944, 81536, 63328, 45920, 28512, 11104]) (mkSt 393984 O23)) .normal gl T24 [394480, 377072, 359664, 342256, 324848, 307440, 290032, 272624, 255216, 237808, 220400, 202992, 185584, 168176, 150768, 133360, 98944, 81536, 63328, 45920, 28512, 11104] 411392 O24 = true := by kernel_rfl
theorem r32h : heldB (mkSt 393984 O23) (O23.map (·.1)) = true := by kernel_rfl
theorem g33 : Goes CC imp Tryz.prog 1000000 87 false (subC [1, 1, 1, 1, 1, 1, 1, 1, 0, 0, 0, 1, 0, 1, 0, 0] bd) (mkFr gl T24 [394480, 377072, 359664, 342256, 324848, 307440, 290032, 272624, 255216, 237808, 220400, 202992, 185584, 168176, 150768, 133360, 98944, 81536, 63328, 45920, 28512, 11104]) (mkSt 411392 O24) (.exit 4) (mkFr gl T25 [394480, 377072, 359664, 342256, 324848, 307440, 290032, 272624, 255216, 237808, 220400, 202992, 185584, 168176, 150768, 133360, 98944, 81536, 63328, 45920, 28512, 11104]) (mkSt 411408 O25) := goes_of (evCall_loc 60) (by kernel_rfl) (by kernel_rfl)
theorem g34 : Goes CC imp Tryz.prog 1000000 87 false (subC [1, 1, 1, 1, 1, 1, 1, 1, 0, 0, 0, 1, 0, 1, 0] bd) (mkFr gl T18 [98944, 81536, 63328, 45920, 28512, 11104]) (mkSt 132864 O18) (.exit 4) (mkFr gl T25 [394480, 377072, 359664, 342256, 324848, 307440, 290032, 272624, 255216, 237808, 220400, 202992, 185584, 168176, 150768, 133360, 98944, 81536, 63328, 45920, 28512, 11104]) (mkSt 411408 O25) := goes_cast (c := .loop (subC [1, 1, 1, 1, 1, 1, 1, 1, 0, 0, 0, 1, 0, 1, 0, 0] bd)) (by kernel_rfl) (goes_loop (by kernel_rfl) (turns_many (evCall_loc 60) r27h r27 (turns_many (evCall_loc 60) r28h r28 (turns_many (evCall_loc 60) r29h r29 (turns_many (evCall_loc 60) r30h r30 (turns_many (evCall_loc 60) r31h r31 (turns_many (evCall_loc 60) r32h r32 (turns_exit g33))))))))
theorem g35 : Goes CC imp Tryz.prog 1000000 87 false (subC [1, 1, 1, 1, 1, 1, 1, 1, 0, 0, 0, 1, 0, 1] bd) (mkFr gl T18 [98944, 81536, 63328, 45920, 28512, 11104]) (mkSt 132864 O18) .normal (mkFr gl T25 [394480, 377072, 359664, 342256, 324848, 307440, 290032, 272624, 255216, 237808, 220400, 202992, 185584, 168176, 150768, 133360, 98944, 81536, 63328, 45920, 28512, 11104]) (mkSt 411408 O25) := goes_cast (c := .block 4 (subC [1, 1, 1, 1, 1, 1, 1, 1, 0, 0, 0, 1, 0, 1, 0] bd)) (by kernel_rfl) (goes_block_exit g34)
theorem g36 : Goes CC imp Tryz.prog 1000000 87 false (subC [1, 1, 1, 1, 1, 1, 1, 1, 0, 0, 0, 1, 0] bd) (mkFr gl T17 [98944, 81536, 63328, 45920, 28512, 11104]) (mkSt 132816 O17) .normal (mkFr gl T25 [394480, 377072, 359664, 342256, 324848, 307440, 290032, 272624, 255216, 237808, 220400, 202992, 185584, 168176, 150768, 133360, 98944, 81536, 63328, 45920, 28512, 11104]) (mkSt 411408 O25) := goes_cast (c := .seq (subC [1, 1, 1, 1, 1, 1, 1, 1, 0, 0, 0, 1, 0, 0] bd) (subC [1, 1, 1, 1, 1, 1, 1, 1, 0, 0, 0, 1, 0, 1] bd)) (by kernel_rfl) (goes_seq g26 g35)
theorem g37 : Goes CC imp Tryz.prog 1000000 87 false (subC [1, 1, 1, 1, 1, 1, 1, 1, 0, 0, 0, 1, 1] bd) (mkFr gl T25 [394480, 377072, 359664, 342256, 324848, 307440, 290032, 272624, 255216, 237808, 220400, 202992, 185584, 168176, 150768, 133360, 98944, 81536, 63328, 45920, 28512, 11104]) (mkSt 411408 O25) .ret (mkFr gl T26 [394480, 377072, 359664, 342256, 324848, 307440, 290032, 272624, 255216, 237808, 220400, 202992, 185584, 168176, 150768, 133360, 98944, 81536, 63328, 45920, 28512, 11104]) (mkSt 411520 O26) := goes_of (evCall_loc 60) (by kernel_rfl) (by kernel_rfl)
theorem g38 : Goes CC imp Tryz.prog 1000000 87 false (subC [1, 1, 1, 1, 1, 1, 1, 1, 0, 0, 0, 1] bd) (mkFr gl T17 [98944, 81536, 63328, 45920, 28512, 11104]) (mkSt 132816 O17) .ret (mkFr gl T26 [394480, 377072, 359664, 342256, 324848, 307440, 290032, 272624, 255216, 237808, 220400, 202992, 185584, 168176, 150768, 133360, 98944, 81536, 63328, 45920, 28512, 11104]) (mkSt 411520 O26) := goes_cast (c := .seq (subC [1, 1, 1, 1, 1, 1, 1, 1, 0, 0, 0, 1, 0] bd) (subC [1, 1, 1, 1, 1, 1, 1, 1, 0, 0, 0, 1, 1] bd)) (by kernel_rfl) (goes_seq g36 g37)
theorem g39 : Goes CC imp Tryz.prog 1000000 87 false (subC [1, 1, 1, 1, 1, 1, 1, 1, 0, 0, 0] bd) (mkFr gl T16 [98944, 81536, 63328, 45920, 28512, 11104]) (mkSt 132800 O16) .ret (mkFr gl T26 [394480, 377072, 359664, 342256, 324848, 307440, 290032, 272624, 255216, 237808, 220400, 202992, 185584, 168176, 150768, 133360, 98944, 81536, 63328, 45920, 28512, 11104]) (mkSt 411520 O26) := goes_cast (c := .seq (subC [1, 1, 1, 1, 1, 1, 1, 1, 0, 0, 0, 0] bd) (subC [1, 1, 1, 1, 1, 1, 1, 1, 0, 0, 0, 1] bd)) (by kernel_rfl) (goes_seq g25 g38)
theorem g40 : Goes CC imp Tryz.prog 1000000 87 false (subC [1, 1, 1, 1, 1, 1, 1, 1, 0, 0] bd) (mkFr gl T16 [98944, 81536, 63328, 45920, 28512, 11104]) (mkSt 132800 O16) .ret (mkFr gl T26 [394480, 377072, 359664, 342256, 324848, 307440, 290032, 272624, 255216, 237808, 220400, 202992, 185584, 168176, 150768, 133360, 98944, 81536, 63328, 45920, 28512, 11104]) (mkSt 411520 O26) := goes_cast (c := .block 3 (subC [1, 1, 1, 1, 1, 1, 1, 1, 0, 0, 0] bd)) (by kernel_rfl) (goes_block_ret g39)
theorem g41 : Goes CC imp Tryz.prog 1000000 87 false (subC [1, 1, 1, 1, 1, 1, 1, 1, 0] bd) (mkFr gl T10 []) (mkSt 9744 O10) .ret (mkFr gl T26 [394480, 377072, 359664, 342256, 324848, 307440, 290032, 272624, 255216, 237808, 220400, 202992, 185584, 168176, 150768, 133360, 98944, 81536, 63328, 45920, 28512, 11104]) (mkSt 411520 O26) := goes_cast (c := .loop (subC [1, 1, 1, 1, 1, 1, 1, 1, 0, 0] bd)) (by kernel_rfl) (goes_loop (by kernel_rfl) (turns_step g24 (turns_ret g40)))
theorem g42 : Goes CC imp Tryz.prog 1000000 87 false (subC [1, 1, 1, 1, 1, 1, 1, 1] bd) (mkFr gl T10 []) (mkSt 9744 O10) .ret (mkFr gl T26 [394480, 377072, 359664, 342256, 324848, 307440, 290032, 272624, 255216, 237808, 220400, 202992, 185584, 168176, 150768, 133360, 98944, 81536, 63328, 45920, 28512, 11104]) (mkSt 411520 O26) := goes_cast (c := .block 2 (subC [1, 1, 1, 1, 1, 1, 1, 1, 0] bd)) (by kernel_rfl) (goes_block_ret g41)
theorem g43 : Goes CC imp Tryz.prog 1000000 87 false (subC [1, 1, 1, 1, 1, 1, 1] bd) (mkFr gl T7 []) (mkSt 6976 O7) .ret (mkFr gl T26 [394480, 377072, 359664, 342256, 324848, 307440, 290032, 272624, 255216, 237808, 220400, 202992, 185584, 168176, 150768, 133360, 98944, 81536, 63328, 45920, 28512, 11104]) (mkSt 411520 O26) := goes_cast (c := .seq (subC [1, 1, 1, 1, 1, 1, 1, 0] bd) (subC [1, 1, 1, 1, 1, 1, 1, 1] bd)) (by kernel_rfl) (goes_seq g12 g42)
theorem g44 : Goes CC imp Tryz.prog 1000000 87 false (subC [1, 1, 1, 1, 1, 1] bd) (mkFr gl T6 []) (mkSt 6960 O6) .ret (mkFr gl T26 [394480, 377072, 359664, 342256, 324848, 307440, 290032, 272624, 255216, 237808, 220400, 202992, 185584, 168176, 150768, 133360, 98944, 81536, 63328, 45920, 28512, 11104]) (mkSt 411520 O26) := goes_cast (c := .seq (subC [1, 1, 1, 1, 1, 1, 0] bd) (subC [1, 1, 1, 1, 1, 1, 1] bd)) (by kernel_rfl) (goes_seq g6 g43)
theorem g45 : Goes CC imp Tryz.prog 1000000 87 false (subC [1, 1, 1, 1, 1] bd) (mkFr gl T5 []) (mkSt 6864 O5) .ret (mkFr gl T26 [394480, 377072, 359664, 342256, 324848, 307440, 290032, 272624, 255216, 237808, 220400, 202992, 185584, 168176, 150768, 133360, 98944, 81536, 63328, 45920, 28512, 11104]) (mkSt 411520 O26) := goes_cast (c := .seq (subC [1, 1, 1, 1, 1, 0] bd) (subC [1, 1, 1, 1, 1, 1] bd)) (by kernel_rfl) (goes_seq g5 g44)
theorem g46 : Goes CC imp Tryz.prog 1000000 87 false (subC [1, 1, 1, 1] bd) (mkFr gl T4 []) (mkSt 304 O4) .ret (mkFr gl T26 [394480, 377072, 359664, 342256, 324848, 307440, 290032, 272624, 255216, 237808, 220400, 202992, 185584, 168176, 150768, 133360, 98944, 81536, 63328, 45920, 28512, 11104]) (mkSt 411520 O26) := goes_cast (c := .seq (subC [1, 1, 1, 1, 0] bd) (subC [1, 1, 1, 1, 1] bd)) (by kernel_rfl) (goes_seq g4 g45)
theorem g47 : Goes CC imp Tryz.prog 1000000 87 false (subC [1, 1, 1] bd) (mkFr gl T3 []) (mkSt 192 O3) .ret (mkFr gl T26 [394480, 377072, 359664, 342256, 324848, 307440, 290032, 272624, 255216, 237808, 220400, 202992, 185584, 168176, 150768, 133360, 98944, 81536, 63328, 45920, 28512, 11104]) (mkSt 411520 O26) := goes_cast (c := .seq (subC [1, 1, 1, 0] bd) (subC [1, 1, 1, 1] bd)) (by kernel_rfl) (goes_seq g3 g46)
theorem g48 : Goes CC imp Tryz.prog 1000000 87 false (subC [1, 1] bd) (mkFr gl T2 []) (mkSt 160 O2) .ret (mkFr gl T26 [394480, 377072, 359664, 342256, 324848, 307440, 290032, 272624, 255216, 237808, 220400, 202992, 185584, 168176, 150768, 133360, 98944, 81536, 63328, 45920, 28512, 11104]) (mkSt 411520 O26) := goes_cast (c := .seq (subC [1, 1, 0] bd) (subC [1, 1, 1] bd)) (by kernel_rfl) (goes_seq g2 g47)
theorem g49 : Goes CC imp Tryz.prog 1000000 87 false (subC [1] bd) (mkFr gl T1 []) (mkSt 48 O1) .ret (mkFr gl T26 [394480, 377072, 359664, 342256, 324848, 307440, 290032, 272624, 255216, 237808, 220400, 202992, 185584, 168176, 150768, 133360, 98944, 81536, 63328, 45920, 28512, 11104]) (mkSt 411520 O26) := goes_cast (c := .seq (subC [1, 0] bd) (subC [1, 1] bd)) (by kernel_rfl) (goes_seq g1 g48)
theorem g50 : Goes CC imp Tryz.prog 1000000 87 false (subC [] bd) (mkFr gl T0 []) (mkSt 0 O0) .ret (mkFr gl T26 [394480, 377072, 359664, 342256, 324848, 307440, 290032, 272624, 255216, 237808, 220400, 202992, 185584, 168176, 150768, 133360, 98944, 81536, 63328, 45920, 28512, 11104]) (mkSt 411520 O26) := goes_cast (c := .seq (subC [0] bd) (subC [1] bd)) (by kernel_rfl) (goes_seq g0 g49)
theorem ntD : max (e781.args.map AVal.p).length fnD.ntmps = 87 := by kernel_rfl
theorem startD : (⟨argsTm gl 0 (e781.args.map .p), []⟩ : Fr) = (mkFr gl T0 []) := by kernel_rfl
theorem subD : subC [] bd = bd := by kernel_rfl
theorem goesD : Goes CC imp Tryz.prog 1000000 (max (e781.args.map AVal.p).length fnD.ntmps) false bd ⟨argsTm gl 0 (e781.args.map .p), []⟩ (mkSt 0 []) .ret (mkFr gl T26 [394480, 377072, 359664, 342256, 324848, 307440, 290032, 272624, 255216, 237808, 220400, 202992, 185584, 168176, 150768, 133360, 98944, 81536, 63328, 45920, 28512, 11104]) (mkSt 411520 O26) := by
  rw [ntD, startD]
  have h := g50
  rw [subD] at h
  exact h
end Go.Proofs.YtdnbnpknpejpdaaGreatDoor.Tik
