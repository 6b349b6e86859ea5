-- WKept (what this claim uses of them)
import Derived.Test.YtehgfpfmpkmdmaaDoorYp8
