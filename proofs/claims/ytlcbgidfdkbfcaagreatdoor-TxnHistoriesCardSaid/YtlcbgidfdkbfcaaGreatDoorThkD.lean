/- The calls that are known: what they are given, what they come to. -/
import Derived.Test.YtlcbgidfdkbfcaaGreatDoorThAB
set_option linter.unusedVariables false
set_option linter.unusedSimpArgs false
namespace Go.Proofs.YtlcbgidfdkbfcaaGreatDoor.Thk
open Go Go.Proofs.YtlcbgidfdkbfcaaGreatDoor.Sw
set_option maxRecDepth 100000
def I (n : Nat) : PVal := .int .i64 (.ofNat n)
def c0 : PVal := (.str [117, 110, 105, 111, 110])
def c1 : PVal := (.sl [(.agg [(I 1), (.str [115]), (I 0), (I 0)]), (.agg [(I 2), c0, (I 0), (I 2)]), (.agg [(I 5), (.str [123]), (I 0), (I 8)]), (.agg [(I 3), (.str []), (I 2), (I 9)]), (.agg [(I 5), (.str [125]), (I 0), (I 10)])])
def c2 : PVal := (.agg [(I 4), (I 0), (.str [115]), .nils, .nils])
def c3 : PVal := (.sl [c2, (.agg [(I 7), (I 0), (.str []), .nils, (.sl [(.agg [(I 1), (I 2), (.str []), .nils, .nils])])])])
def c4 : PVal := (.agg [(I 8), (I 0), (.str []), .nils, c3])
def c5 : PVal := (.tup [c4, (I 5)])
def c6 : PVal := (.sl [(.agg [(I 5), (.str [123]), (I 0), (I 0)]), (.agg [(I 1), (.str [120]), (I 0), (I 1)]), (.agg [(I 5), (.str [43]), (I 0), (I 3)]), (.agg [(I 3), (.str []), (I 1), (I 5)]), (.agg [(I 5), (.str [58]), (I 0), (I 7)]), (.agg [(I 1), (.str [120]), (I 0), (I 9)]), (.agg [(I 2), (.str [105, 110]), (I 0), (I 11)]), (.agg [(I 1), (.str [115]), (I 0), (I 14)]), (.agg [(I 5), (.str [125]), (I 0), (I 15)])])
def c7 : PVal := (.agg [(I 15), (I 0), (.str []), .nils, (.sl [(.agg [(I 4), (I 0), (.str [120]), .nils, .nils]), (.agg [(I 1), (I 1), (.str []), .nils, .nils])])])
def c8 : PVal := (.agg [(.str [97]), (I 4), (I 0), (.str [98]), .nils, .nils])
def c9 : PVal := (.sl [c7, (.agg [(I 2), (I 1), (.str []), .nils, .nils]), c2])
def c10 : PVal := (.agg [(I 22), (I 0), (.str []), (.sl [(.str [120])]), c9])
def c11 : PVal := (.agg [(.str [97]), (I 1), (I 1), (.str []), .nils])
def c12 : PVal := (.agg [(.str [98]), (I 1), (I 2), (.str []), .nils])
def c13 : PVal := (.sl [c11, c12])
def c14 : PVal := (.agg [c13, (.sl [(.sl [c8]), (.sl [(.agg [(.str [98]), (I 4), (I 0), (.str [97]), .nils, .nils])])])])
def c15 : PVal := (.agg [(.str [115]), (I 22), (I 0), (.str []), (.sl [(.str [120])]), c9])
def c16 : PVal := (.agg [(I 4), (I 0), (.str [98]), .nils, .nils])
def c17 : PVal := (.agg [(I 4), (I 0), (.str [97]), .nils, .nils])
def c18 : PVal := (.agg [(I 1), (I 1), (.str []), .nils])
def c19 : PVal := (.agg [(.sl [(.agg [(.str [115]), (I 5), (I 0), (.str []), (.sl [c18])]), (.agg [(.str [116]), (I 5), (I 0), (.str []), .nils])]), (.sl [(.sl [(.agg [(.str [115]), (I 8), (I 0), (.str []), .nils, c3]), (.agg [(.str [116]), (I 4), (I 0), (.str [115]), .nils, .nils])]), (.sl [c15])])])
def c20 : PVal := (.agg [(I 1), (I 2), (.str []), .nils])
def c21 : PVal := (.agg [(.sl [(.str [97]), (.str [98])]), (.sl [c18, c20]), (.sl [(.agg [(.sl [(.int .u64 (.ofNat 2))]), (.sl [(I 0)]), (.sl [c16]), (.int .u64 (.ofNat 2)), (.int .u64 (.ofNat 1))]), (.agg [(.sl [(.int .u64 (.ofNat 1))]), (.sl [(I 1)]), (.sl [c17]), (.int .u64 (.ofNat 1)), (.int .u64 (.ofNat 2))])])])
def c22 : PVal := (.tup [c21, (I 0)])
def c23 : PVal := (.sl [c20, c20])
def e0 : Ent := ⟨124, [c1, (I 0), (I 7)], (.p c5), []⟩
def e1 : Ent := ⟨124, [c6, (I 1), (I 0)], (.p (.tup [c7, (I 4)])), []⟩
def e2 : Ent := ⟨150, [], (.rf .mp 0), [(0, .ho (.mp [((.str [97, 108, 108]), (.p (.bool true))), ((.str [97, 110, 100]), (.p (.bool true))), ((.str [98, 111, 111, 108]), (.p (.bool true))), ((.str [98, 121]), (.p (.bool true))), ((.str [99, 111, 117, 110, 116]), (.p (.bool true))), ((.str [101, 108, 115, 101]), (.p (.bool true))), ((.str [102, 97, 108, 115, 101]), (.p (.bool true))), ((.str [102, 105, 120]), (.p (.bool true))), ((.str [102, 111, 114]), (.p (.bool true))), ((.str [102, 114, 111, 109]), (.p (.bool true))), ((.str [103, 114, 101, 97, 116]), (.p (.bool true))), ((.str [105, 102]), (.p (.bool true))), ((.str [105, 110]), (.p (.bool true))), ((.str [105, 110, 116]), (.p (.bool true))), ((.str [108, 97, 119]), (.p (.bool true))), ((.str [108, 101, 97, 115, 116]), (.p (.bool true))), ((.str [109, 101, 101, 116]), (.p (.bool true))), ((.str [109, 105, 110, 117, 115]), (.p (.bool true))), ((.str [109, 111, 100, 117, 108, 101]), (.p (.bool true))), ((.str [110, 111, 110, 101]), (.p (.bool true))), ((.str [110, 111, 116]), (.p (.bool true))), ((.str [111, 112]), (.p (.bool true))), ((.str [111, 114]), (.p (.bool true))), ((.str [112, 105, 99, 107]), (.p (.bool true))), ((.str [115, 111, 109, 101]), (.p (.bool true))), ((.str [115, 117, 109]), (.p (.bool true))), ((.str [116, 101, 120, 116]), (.p (.bool true))), ((.str [116, 104, 101, 110]), (.p (.bool true))), ((.str [116, 114, 117, 101]), (.p (.bool true))), (c0, (.p (.bool true))), ((.str [118, 97, 114]), (.p (.bool true))), ((.str [119, 104, 105, 108, 101]), (.p (.bool true))), ((.str [119, 105, 116, 104, 105, 110]), (.p (.bool true)))]))]⟩
def e3 : Ent := ⟨48, [(.str [97]), (.str [98])], (.p c8), []⟩
def e4 : Ent := ⟨124, [c1, (I 0), (I 0)], (.p c5), []⟩
def e5 : Ent := ⟨124, [c6, (I 0), (I 5)], (.p (.tup [c10, (I 9)])), []⟩
def e6 : Ent := ⟨112, [(.str [115])], (.p (.bool true)), []⟩
def e7 : Ent := ⟨112, [(.str [120])], (.p (.bool true)), []⟩
def e8 : Ent := ⟨17, [], (.p c14), []⟩
def e9 : Ent := ⟨112, [(.str [97])], (.p (.bool true)), []⟩
def e10 : Ent := ⟨112, [(.str [98])], (.p (.bool true)), []⟩
def e11 : Ent := ⟨48, [(.str [115]), (.str [123, 120, 32, 43, 32, 49, 32, 58, 32, 120, 32, 105, 110, 32, 115, 125])], (.p c15), []⟩
def e12 : Ent := ⟨147, [c2], (.p (.bool true)), []⟩
def e13 : Ent := ⟨111, [c11], (.p (.bool true)), []⟩
def e14 : Ent := ⟨111, [c12], (.p (.bool true)), []⟩
def e15 : Ent := ⟨91, [c16], (.p (I 0)), []⟩
def e16 : Ent := ⟨91, [c17], (.p (I 0)), []⟩
def e17 : Ent := ⟨15, [], (.p c19), []⟩
def e18 : Ent := ⟨91, [c4], (.p (I 0)), []⟩
def e19 : Ent := ⟨91, [c2], (.p (I 0)), []⟩
def e20 : Ent := ⟨91, [c10], (.p (I 0)), []⟩
def e21 : Ent := ⟨92, [c13], (.p (.bool true)), []⟩
def e22 : Ent := ⟨14, [c19, (I 0)], (.tup [(.arr 0 0 0 1 false), (.arr 1 0 0 2 false), (.p (I 0))]), [(0, .arr 1 1 [(.p (I 0))] 0 0 0), (1, .arr 1 2 [(.p (I 0)), (.p (I 1))] 0 0 0)]⟩
def e23 : Ent := ⟨44, [c14], (.p c22), []⟩
def e24 : Ent := ⟨75, [c17, c13, (I 500)], (.p (.tup [c18, (I 499), (I 0), (I 0)])), []⟩
def e25 : Ent := ⟨75, [c16, c13, (I 500)], (.p (.tup [c20, (I 499), (I 0), (I 0)])), []⟩
def e26 : Ent := ⟨50, [c21, (.sl [(I 1), (I 0)])], (.tup [(.arr 0 0 0 2 false), (.p (.bool true))]), [(0, .arr 4 2 [(.p c18), (.p c18)] 0 0 0)]⟩
def e27 : Ent := ⟨52, [c14, (.sl [(I 0), (I 1), (I 0), (I 1), (I 0), (I 1)])], (.p c22), []⟩
def e28 : Ent := ⟨51, [c23], (.arr 0 0 0 2 false), [(0, .arr 4 2 [(.p c20), (.p c20)] 0 0 0)]⟩
def e29 : Ent := ⟨20, [c14, (.sl [(I 0), (I 1), (I 1), (I 1), (I 0), (I 0)])], (.tup [(.p (.agg [c23, (.sl [(I 0)]), (.sl [(I 0), (I 3)]), .nils])), (.arr 1 0 0 2 false), (.p (I 0))]), [(1, .arr 3 2 [(.p (.agg [(I 0), (.bool false), (I 1)])), (.p (.agg [(I 0), (.bool true), (I 0)]))] 0 0 0)]⟩
def e30 : Ent := ⟨21, [c14, (.sl [(I 0), (I 1)]), (.sl [c18, c18])], (.tup [(.arr 0 0 0 2 false), (.p (I 0))]), [(0, .arr 1 2 [(.p (I 1)), (.p (I 0))] 0 0 0)]⟩
def e31 : Ent := ⟨4, [], (.p (.bool true)), []⟩
def t1 : BT := (.nd 124 [e0, e1] (.nd 48 [e3] .lf .lf) (.nd 150 [e2] .lf .lf))
def t2 : BT := (.nd 112 [e6, e7, e9, e10] (.nd 48 [e3] (.nd 17 [e8] .lf .lf) .lf) (.nd 150 [e2] (.nd 124 [e0, e1, e4, e5] .lf .lf) .lf))
def t3 : BT := (.nd 112 [e6, e7, e9, e10] (.nd 91 [e15, e16] (.nd 48 [e3, e11] (.nd 17 [e8] .lf .lf) .lf) (.nd 111 [e13, e14] .lf .lf)) (.nd 147 [e12] (.nd 124 [e0, e1, e4, e5] .lf .lf) (.nd 150 [e2] .lf .lf)))
def t4 : BT := (.nd 111 [e13, e14] (.nd 48 [e3, e11] (.nd 17 [e8] (.nd 15 [e17] .lf .lf) .lf) (.nd 92 [e21] (.nd 91 [e15, e16, e18, e19, e20] .lf .lf) .lf)) (.nd 147 [e12] (.nd 124 [e0, e1, e4, e5] (.nd 112 [e6, e7, e9, e10] .lf .lf) .lf) (.nd 150 [e2] .lf .lf)))
def t5 : BT := (.nd 91 [e15, e16, e18, e19, e20] (.nd 44 [e23] (.nd 15 [e17] (.nd 14 [e22] .lf .lf) (.nd 17 [e8] .lf .lf)) (.nd 75 [e24, e25] (.nd 48 [e3, e11] .lf .lf) .lf)) (.nd 124 [e0, e1, e4, e5] (.nd 111 [e13, e14] (.nd 92 [e21] .lf .lf) (.nd 112 [e6, e7, e9, e10] .lf .lf)) (.nd 150 [e2] (.nd 147 [e12] .lf .lf) .lf)))
def t6 : BT := (.nd 75 [e24, e25] (.nd 48 [e3, e11] (.nd 17 [e8] (.nd 15 [e17] (.nd 14 [e22] .lf .lf) .lf) (.nd 44 [e23] .lf .lf)) (.nd 51 [e28] (.nd 50 [e26] .lf .lf) (.nd 52 [e27] .lf .lf))) (.nd 112 [e6, e7, e9, e10] (.nd 92 [e21] (.nd 91 [e15, e16, e18, e19, e20] .lf .lf) (.nd 111 [e13, e14] .lf .lf)) (.nd 147 [e12] (.nd 124 [e0, e1, e4, e5] .lf .lf) (.nd 150 [e2] .lf .lf))))
def t7 : BT := (.nd 52 [e27] (.nd 21 [e30] (.nd 17 [e8] (.nd 15 [e17] (.nd 14 [e22] .lf .lf) .lf) (.nd 20 [e29] .lf .lf)) (.nd 50 [e26] (.nd 48 [e3, e11] (.nd 44 [e23] .lf .lf) .lf) (.nd 51 [e28] .lf .lf))) (.nd 112 [e6, e7, e9, e10] (.nd 92 [e21] (.nd 91 [e15, e16, e18, e19, e20] (.nd 75 [e24, e25] .lf .lf) .lf) (.nd 111 [e13, e14] .lf .lf)) (.nd 147 [e12] (.nd 124 [e0, e1, e4, e5] .lf .lf) (.nd 150 [e2] .lf .lf))))
def t0 : BT := .lf
end Go.Proofs.YtlcbgidfdkbfcaaGreatDoor.Thk
